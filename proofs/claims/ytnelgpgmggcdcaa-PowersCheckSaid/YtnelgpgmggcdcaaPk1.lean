/- Functions of the program, as plain data. -/
import Derived.Test.YtnelgpgmggcdcaaP3
set_option linter.unusedVariables false
set_option linter.unusedSimpArgs false
namespace Go.Proofs.Ytnelgpgmggcdcaa
open Go.RowKit

def p25_l2 (n : Nat) (x0 : Sl (Int × Int × Bool × Bool × Bool × Bool × Int)) (c_6 : Int) (y_18 : Int × Int × Bool × Bool × Bool × Bool × Int) : Nat → (Int) → Option ((Unit) ⊕ ((Int)))
  | 0, _ => .none
  | m + 1, c_53 => if (decide (c_53 < c_6)) then ((idx x0.xs c_53).bind fun y_62 => (if (y_62.1 == y_18.1) = true then (idx x0.xs c_53).bind fun y_72 => some (y_72.2.1 == y_18.2.1) else some false).bind fun q_70 => if q_70 then (some (.inr 1)) else (ckI .i64 (c_53 + 1)).bind fun x_242 => p25_l2 n x0 c_6 y_18 m x_242) else some (.inl ())
def p25_l1 (n : Nat) (x0 : Sl (Int × Int × Bool × Bool × Bool × Bool × Int)) : Nat → (Int) → (List (Int)) → Option (((List (Int))) ⊕ ((Int)))
  | 0, _, _ => .none
  | m + 1, c_6, c_8 => if (decide (c_6 < (lenI x0))) then ((idx x0.xs c_6).bind fun y_18 => (if (decide (y_18.1 < (-1))) = false then some (decide (y_18.1 ≥ c_6)) else some true).bind fun q_32 => (if q_32 = false then some (decide (y_18.2.1 < 1)) else some true).bind fun q_35 => (if q_35 = false then some (decide (y_18.2.1 > 7)) else some true).bind fun q_38 => (if q_38 = false then some (decide (y_18.2.2.2.2.2.2 < 0)) else some true).bind fun q_41 => (if q_41 = false then some (decide (y_18.2.2.2.2.2.2 > 500)) else some true).bind fun q_44 => (if q_44 = false then (if y_18.2.2.2.1 = true then some (!y_18.2.2.1) else some false).bind fun q_50 => some q_50 else some true).bind fun q_47 => if q_47 then (some (.inr 1)) else (p25_l2 n x0 c_6 y_18 n 0).bind fun (y_57 : (Unit) ⊕ ((Int))) => lrK y_57 (fun r => some (.inr r)) fun (s_58 : Unit) => (if (decide (y_18.1 ≥ 0)) then ((idx x0.xs y_18.1).bind fun y_250 => (if (!y_250.2.2.1) = false then (if (!y_250.2.2.2.1) = true then some (decide (y_18.2.1 > 4)) else some false).bind fun q_267 => some q_267 else some true).bind fun q_264 => (if q_264 = false then (if y_250.2.2.2.2.2.1 = true then some (!y_18.2.2.2.2.2.1) else some false).bind fun q_273 => some q_273 else some true).bind fun q_270 => if q_270 then (some (.inr 1)) else (idx c_8 y_18.1).bind fun y_278 => (idx c_8 c_6).bind fun y_281 => some (.inl (c_8.set c_6.toNat y_278))) else some (.inl c_8)).bind fun (j_246 : ((List (Int))) ⊕ ((Int))) => lrK j_246 (fun r => some (.inr r)) fun (s_247 : (List (Int))) => (if y_18.2.2.1 then ((idx s_247 c_6).bind fun y_288 => (ckI .i64 (y_288 + 1)).bind fun x_291 => (idx s_247 c_6).bind fun y_292 => some (s_247.set c_6.toNat x_291)) else some s_247).bind fun (j_287 : (List (Int))) => (idx j_287 c_6).bind fun y_296 => if (decide (y_296 > 5)) then (some (.inr 1)) else (ckI .i64 (c_6 + 1)).bind fun x_299 => p25_l1 n x0 m x_299 j_287) else some (.inl c_8)
def p25 (n : Nat) (x0 : Sl (Int × Int × Bool × Bool × Bool × Bool × Int)) : Option ((Int)) :=
  if (decide ((lenI x0) > 127)) then (some 3) else (p25_l1 n x0 n 0 (List.replicate 128 (0 : Int))).bind fun (y_12 : ((List (Int))) ⊕ ((Int))) => lrK y_12 some fun (s_13 : (List (Int))) => some 0
set_option maxHeartbeats 4000000 in
set_option maxRecDepth 100000 in
/-- plugboard/plugboardlaw19.check -/
theorem c25 (K : Nat → Prop) (n : Nat) (w : World) (x0 : Sl (Int × Int × Bool × Bool × Bool × Bool × Int)) (v0 : Value) (R0 : RepV (.sl gt1) w K v0 x0) {r : (Int)} (h : p25 n x0 = some r) :
    Calls Try.prog 25 #[v0] w (Ret1 (.int .i64) w (Kx K w.heap.size []) r) := by
  refine enter (args := [v0]) Try.func25 rfl 129 rfl rfl fun a S => ?_
  have W := Wd.start w
  replace R0 := R0.arg
  unfold p25 at h
  replace S : St 129 a [(0, v0)] := S
  refine wp_seq ?_
  refine wp_region_lit ?_
  refine wl_pure (l' := [(2, .int .i64 0), (0, v0)]) S tys tys_ok 1 (by kernel_rfl) ?_
  clear S; intro a S
  refine wpList_nil ?_
  refine then_n ?_
  replace S := S.sub (l' := [(0, v0)]) (by exact ⟨rfl, trivial⟩)
  refine wp_seq ?_
  refine wp_seq ?_
  refine wp_region_lit ?_
  refine wl_pure (l' := [(8, v0), (0, v0)]) S tys tys_ok 1 (by kernel_rfl) ?_
  clear S; intro a S
  refine w_go S rfl (op_len (K := _) S rfl ty24 rfl rfl rfl R0 ?_)
  clear S; intro a G_1 S
  refine wl_pure (l' := [(10, .bool (decide ((lenI x0) > 127))), (9, .int .i64 (lenI x0)), (8, v0), (0, v0)]) S tys tys_ok 1 (by kernel_rfl) ?_
  clear S; intro a S
  refine wpList_nil ?_
  refine then_n ?_
  replace S := S.sub (l' := [(10, .bool (decide ((lenI x0) > 127))), (0, v0)]) (by exact ⟨rfl, rfl, trivial⟩)
  refine wp_cond_split (S.eval (show ev _ _ = some (.bool (decide ((lenI x0) > 127))) from rfl)) ?_ ?_
  · intro hc
    rw [if_pos hc] at h
    refine wp_seq ?_
    refine wp_region_lit ?_
    refine wl_pure (l' := [(2, .int .i64 3), (10, .bool (decide ((lenI x0) > 127))), (0, v0)]) S tys tys_ok 1 (by kernel_rfl) ?_
    clear S; intro a S
    refine wpList_nil ?_
    refine then_n ?_
    replace S := S.sub (l' := [(2, .int .i64 3)]) (by exact ⟨rfl, trivial⟩)
    refine wp_ret ?_
    refine then_r ?_
    obtain rfl := Option.some.inj h
    exact b_ret1 S rfl rfl ⟨_, rfl, (RepV.mkInt (by decide)), W.below⟩
  · intro hc
    rw [if_neg (Bool.eq_false_iff.1 hc)] at h
    refine wp_skip ?_
    refine then_n ?_
    replace S := S.sub (l' := [(0, v0)]) (by exact ⟨rfl, trivial⟩)
    refine wp_seq ?_
    refine wp_region_lit ?_
    refine w_go S rfl (op_alloc (K := K) (n := w.heap.size) (L := []) (t := (.arr 128 (.int .i64))) (y := (List.replicate 128 (0 : Int))) S rfl rfl rfl _ z26 (fun w K => (rep_replicate (e := (.int .i64)) (z := 0) (cs := [.int .i64 0]) (⟨rfl, by decide⟩) 128)) ?_)
    clear S; intro a w_4 b_2 hb_5 B_3 S
    replace R0 := R0.box hb_5
    replace W := W.box hb_5
    refine wpList_nil ?_
    refine then_n ?_
    refine wp_seq ?_
    refine wp_seq ?_
    refine wp_region_lit ?_
    refine wl_pure (l' := [(4, .int .i64 0), (3, pB b_2), (0, v0)]) S tys tys_ok 1 (by kernel_rfl) ?_
    clear S; intro a S
    refine wpList_nil ?_
    refine then_n ?_
    obtain ⟨y_12, ey_12, h⟩ := bindS h
    refine wp_cut_ (fun a_ w_ => ∃ s_13 : (List (Int)), y_12 = .inl s_13 ∧ (St 129 a_ [] ∧ Wd w w_ [some b_2] ∧ Bx (.arr 128 (.int .i64)) 26 w_ (Kx K w.heap.size [some b_2]) b_2 s_13)) ?_ ?_
    · refine wp_block ?_
      refine wp_loop_n (fun m_ a_ w_ => ∃ (c_6 : Int) (c_8 : List (Int)) , St 129 a_ [(4, .int .i64 c_6), (3, pB b_2), (0, v0)] ∧ Wd w w_ [some b_2] ∧ InR .i64 c_6 ∧ RepV (.sl gt1) w_ (Kx K w.heap.size [some b_2]) v0 x0 ∧ Bx (.arr 128 (.int .i64)) 26 w_ (Kx K w.heap.size [some b_2]) b_2 c_8 ∧ p25_l1 n x0 m_ c_6 c_8 = some y_12) n ?_ ?_
      · skip
        exact ⟨0, (List.replicate 128 (0 : Int)), ⟨S.sub (by exact ⟨rfl, rfl, rfl, trivial⟩), W, (by decide), R0, B_3, ey_12⟩⟩
      · clear S W; rintro m_14 a w_16 ⟨c_6, c_8, S, W, G_7, R0, B_3, hl_15⟩
        cases m_14 with
        | zero => exact absurd hl_15 (by simp [p25_l1])
        | succ m_14 =>
          refine ⟨m_14, rfl, ?_⟩
          rw [p25_l1] at hl_15
          refine wp_seq ?_
          refine wp_seq ?_
          refine wp_region_lit ?_
          refine wl_pure (l' := [(12, v0), (11, .int .i64 c_6), (4, .int .i64 c_6), (3, pB b_2), (0, v0)]) S tys tys_ok 2 (by kernel_rfl) ?_
          clear S; intro a S
          refine w_go S rfl (op_len (K := _) S rfl ty24 rfl rfl rfl R0 ?_)
          clear S; intro a G_17 S
          refine wl_pureK (l' := [(14, .bool (decide (c_6 < (lenI x0)))), (4, .int .i64 c_6), (3, pB b_2), (0, v0)]) S tys tys_ok 1 [14, 4, 3, 0] (by kernel_rfl) ?_
          clear S; intro a S
          refine wpList_nil ?_
          refine then_n ?_
          refine wp_cond_split (S.eval (show ev _ _ = some (.bool (decide (c_6 < (lenI x0)))) from rfl)) ?_ ?_
          · intro hc
            rw [if_pos hc] at hl_15
            refine wp_skip ?_
            refine then_n ?_
            replace S := S.sub (l' := [(4, .int .i64 c_6), (3, pB b_2), (0, v0)]) (by exact ⟨rfl, rfl, rfl, trivial⟩)
            refine wp_seq ?_
            refine wp_block ?_
            refine wp_seq ?_
            refine wp_region_lit ?_
            refine wl_pure (l' := [(18, .int .i64 c_6), (17, v0), (4, .int .i64 c_6), (3, pB b_2), (0, v0)]) S tys tys_ok 2 (by kernel_rfl) ?_
            clear S; intro a S
            obtain ⟨y_18, ey_18, hl_15⟩ := bindS hl_15
            refine w_go S rfl (op_indexAddr S rfl ty24 rfl rfl rfl R0 rfl ey_18 ?_)
            clear S; intro a p_19 R_20 H_21 S
            refine w_go S rfl (op_load (t := gt1) (x := y_18) S rfl ty32 rfl rfl rfl R_20 ?_)
            clear S; intro a v_22 R_23 S
            refine w_go S rfl (op_alloc (K := K) (n := w.heap.size) (L := [some b_2]) (t := gt1) (y := (0, 0, false, false, false, false, 0)) S rfl rfl rfl _ z32 (fun w K => ⟨[.int .i64 0], [.int .u8 0, .bool false, .bool false, .bool false, .bool false, .int .i64 0], rfl, ⟨rfl, by decide⟩, ⟨[.int .u8 0], [.bool false, .bool false, .bool false, .bool false, .int .i64 0], rfl, ⟨rfl, by decide⟩, ⟨[.bool false], [.bool false, .bool false, .bool false, .int .i64 0], rfl, rfl, ⟨[.bool false], [.bool false, .bool false, .int .i64 0], rfl, rfl, ⟨[.bool false], [.bool false, .int .i64 0], rfl, rfl, ⟨[.bool false], [.int .i64 0], rfl, rfl, ⟨rfl, by decide⟩⟩⟩⟩⟩⟩⟩) ?_)
            clear S; intro a w_26 b_24 hb_27 B_25 S
            replace R0 := R0.box hb_27
            replace R_23 := R_23.box hb_27
            replace B_3 := B_3.box hb_27
            replace W := W.box hb_27
            refine w_go S rfl (op_store (t' := gt1) S rfl rfl ty32 rfl rfl rfl B_25 (by simp) Ln.whole R_23 ?_)
            intro w_28 hw_29 B_
            replace R0 := R0.wrote hw_29 (by simp)
            replace R_23 := R_23.wrote hw_29 (by simp)
            replace B_3 := B_3.wrote hw_29 (by simp) (W.bne (p := 1) (q := 0) (by decide) rfl rfl)
            replace W := W.wrote hw_29 (by simp)
            replace B_25 : Bx gt1 32 w_28 (Kx K w.heap.size [some b_24, some b_2]) b_24 y_18 := B_; clear B_
            refine wpList_nil ?_
            refine then_n ?_
            replace S := S.sub (l' := [(5, pB b_24), (4, .int .i64 c_6), (3, pB b_2), (0, v0)]) (by exact ⟨rfl, rfl, rfl, rfl, trivial⟩)
            refine wp_seq ?_
            refine wp_seq ?_
            refine wp_region_lit ?_
            refine wl_pure (l' := [(21, .pointer (some ((⟨b_24, 0, .none⟩ : Addr).add (coff gf1 0)))), (5, pB b_24), (4, .int .i64 c_6), (3, pB b_2), (0, v0)]) S tys tys_ok 1 (by kernel_rfl) ?_
            clear S; intro a S
            refine w_go S rfl (op_load (t := (.int .i64)) (x := y_18.1) S rfl ty3 rfl rfl rfl (RepAt.add 0 (RepAt.st (t := gf1) B_25.at_)) ?_)
            clear S; intro a v_30 R_31 S
            obtain ⟨rfl, GR_31⟩ := RepV.int R_31
            refine wl_pureK (l' := [(24, .bool (decide (y_18.1 < (-1)))), (5, pB b_24), (4, .int .i64 c_6), (3, pB b_2), (0, v0)]) S tys tys_ok 2 [24, 5, 4, 3, 0] (by kernel_rfl) ?_
            clear S; intro a S
            obtain ⟨q_32, eq_32, hl_15⟩ := bindS hl_15
            refine seg 5 (fun a_ w_ => w_28 = w_ ∧ St 129 a_ [(29, .bool q_32), (5, pB b_24), (4, .int .i64 c_6), (3, pB b_2), (0, v0)]) ?_ ?_
            · by_cases hc : (decide (y_18.1 < (-1))) = false
              · rw [if_pos hc] at eq_32; rw [hc] at S
                refine wl_pure (l' := [(25, .pointer (some ((⟨b_24, 0, .none⟩ : Addr).add (coff gf1 0)))), (24, .bool false), (5, pB b_24), (4, .int .i64 c_6), (3, pB b_2), (0, v0)]) S tys tys_ok 1 (by kernel_rfl) ?_
                clear S; intro a S
                refine w_go S rfl (op_load (t := (.int .i64)) (x := y_18.1) S rfl ty3 rfl rfl rfl (RepAt.add 0 (RepAt.st (t := gf1) B_25.at_)) ?_)
                clear S; intro a v_33 R_34 S
                obtain ⟨rfl, GR_34⟩ := RepV.int R_34
                refine wl_pure (l' := [(29, .bool (decide (y_18.1 ≥ c_6))), (28, .bool (decide (y_18.1 ≥ c_6))), (27, .int .i64 c_6), (26, .int .i64 y_18.1), (25, .pointer (some ((⟨b_24, 0, .none⟩ : Addr).add (coff gf1 0)))), (24, .bool false), (5, pB b_24), (4, .int .i64 c_6), (3, pB b_2), (0, v0)]) S tys tys_ok 3 (by kernel_rfl) ?_
                clear S; intro a S
                obtain rfl := Option.some.inj eq_32
                exact ⟨rfl, S.sub (by exact ⟨rfl, rfl, rfl, rfl, rfl, trivial⟩)⟩
              · rw [if_neg hc] at eq_32; rw [show (decide (y_18.1 < (-1))) = true from (by simpa using hc)] at S
                refine wl_pure (l' := [(29, .bool true), (28, undef), (27, undef), (26, undef), (25, undef), (24, .bool true), (5, pB b_24), (4, .int .i64 c_6), (3, pB b_2), (0, v0)]) S tys tys_ok 5 (by kernel_rfl) ?_
                clear S; intro a S
                obtain rfl := Option.some.inj eq_32
                exact ⟨rfl, S.sub (by exact ⟨rfl, rfl, rfl, rfl, rfl, trivial⟩)⟩
            clear S eq_32; rintro a _ ⟨rfl, S⟩
            refine wl_pure (l' := [(30, .bool q_32), (29, .bool q_32), (5, pB b_24), (4, .int .i64 c_6), (3, pB b_2), (0, v0)]) S tys tys_ok 1 (by kernel_rfl) ?_
            clear S; intro a S
            obtain ⟨q_35, eq_35, hl_15⟩ := bindS hl_15
            refine seg 4 (fun a_ w_ => w_28 = w_ ∧ St 129 a_ [(34, .bool q_35), (5, pB b_24), (4, .int .i64 c_6), (3, pB b_2), (0, v0)]) ?_ ?_
            · by_cases hc : q_32 = false
              · rw [if_pos hc] at eq_35; rw [hc] at S
                refine wl_pure (l' := [(31, .pointer (some ((⟨b_24, 0, .none⟩ : Addr).add (coff gf1 1)))), (30, .bool false), (29, .bool false), (5, pB b_24), (4, .int .i64 c_6), (3, pB b_2), (0, v0)]) S tys tys_ok 1 (by kernel_rfl) ?_
                clear S; intro a S
                refine w_go S rfl (op_load (t := (.int .u8)) (x := y_18.2.1) S rfl ty5 rfl rfl rfl (RepAt.add 1 (RepAt.st (t := gf1) B_25.at_)) ?_)
                clear S; intro a v_36 R_37 S
                obtain ⟨rfl, GR_37⟩ := RepV.int R_37
                refine wl_pure (l' := [(34, .bool (decide (y_18.2.1 < 1))), (33, .bool (decide (y_18.2.1 < 1))), (32, .int .u8 y_18.2.1), (31, .pointer (some ((⟨b_24, 0, .none⟩ : Addr).add (coff gf1 1)))), (30, .bool false), (29, .bool false), (5, pB b_24), (4, .int .i64 c_6), (3, pB b_2), (0, v0)]) S tys tys_ok 2 (by kernel_rfl) ?_
                clear S; intro a S
                obtain rfl := Option.some.inj eq_35
                exact ⟨rfl, S.sub (by exact ⟨rfl, rfl, rfl, rfl, rfl, trivial⟩)⟩
              · rw [if_neg hc] at eq_35; rw [show q_32 = true from (by simpa using hc)] at S
                refine wl_pure (l' := [(34, .bool true), (33, undef), (32, undef), (31, undef), (30, .bool true), (29, .bool true), (5, pB b_24), (4, .int .i64 c_6), (3, pB b_2), (0, v0)]) S tys tys_ok 4 (by kernel_rfl) ?_
                clear S; intro a S
                obtain rfl := Option.some.inj eq_35
                exact ⟨rfl, S.sub (by exact ⟨rfl, rfl, rfl, rfl, rfl, trivial⟩)⟩
            clear S eq_35; rintro a _ ⟨rfl, S⟩
            refine wl_pure (l' := [(35, .bool q_35), (34, .bool q_35), (5, pB b_24), (4, .int .i64 c_6), (3, pB b_2), (0, v0)]) S tys tys_ok 1 (by kernel_rfl) ?_
            clear S; intro a S
            obtain ⟨q_38, eq_38, hl_15⟩ := bindS hl_15
            refine seg 4 (fun a_ w_ => w_28 = w_ ∧ St 129 a_ [(39, .bool q_38), (5, pB b_24), (4, .int .i64 c_6), (3, pB b_2), (0, v0)]) ?_ ?_
            · by_cases hc : q_35 = false
              · rw [if_pos hc] at eq_38; rw [hc] at S
                refine wl_pure (l' := [(36, .pointer (some ((⟨b_24, 0, .none⟩ : Addr).add (coff gf1 1)))), (35, .bool false), (34, .bool false), (5, pB b_24), (4, .int .i64 c_6), (3, pB b_2), (0, v0)]) S tys tys_ok 1 (by kernel_rfl) ?_
                clear S; intro a S
                refine w_go S rfl (op_load (t := (.int .u8)) (x := y_18.2.1) S rfl ty5 rfl rfl rfl (RepAt.add 1 (RepAt.st (t := gf1) B_25.at_)) ?_)
                clear S; intro a v_39 R_40 S
                obtain ⟨rfl, GR_40⟩ := RepV.int R_40
                refine wl_pure (l' := [(39, .bool (decide (y_18.2.1 > 7))), (38, .bool (decide (y_18.2.1 > 7))), (37, .int .u8 y_18.2.1), (36, .pointer (some ((⟨b_24, 0, .none⟩ : Addr).add (coff gf1 1)))), (35, .bool false), (34, .bool false), (5, pB b_24), (4, .int .i64 c_6), (3, pB b_2), (0, v0)]) S tys tys_ok 2 (by kernel_rfl) ?_
                clear S; intro a S
                obtain rfl := Option.some.inj eq_38
                exact ⟨rfl, S.sub (by exact ⟨rfl, rfl, rfl, rfl, rfl, trivial⟩)⟩
              · rw [if_neg hc] at eq_38; rw [show q_35 = true from (by simpa using hc)] at S
                refine wl_pure (l' := [(39, .bool true), (38, undef), (37, undef), (36, undef), (35, .bool true), (34, .bool true), (5, pB b_24), (4, .int .i64 c_6), (3, pB b_2), (0, v0)]) S tys tys_ok 4 (by kernel_rfl) ?_
                clear S; intro a S
                obtain rfl := Option.some.inj eq_38
                exact ⟨rfl, S.sub (by exact ⟨rfl, rfl, rfl, rfl, rfl, trivial⟩)⟩
            clear S eq_38; rintro a _ ⟨rfl, S⟩
            refine wl_pure (l' := [(40, .bool q_38), (39, .bool q_38), (5, pB b_24), (4, .int .i64 c_6), (3, pB b_2), (0, v0)]) S tys tys_ok 1 (by kernel_rfl) ?_
            clear S; intro a S
            obtain ⟨q_41, eq_41, hl_15⟩ := bindS hl_15
            refine seg 4 (fun a_ w_ => w_28 = w_ ∧ St 129 a_ [(44, .bool q_41), (5, pB b_24), (4, .int .i64 c_6), (3, pB b_2), (0, v0)]) ?_ ?_
            · by_cases hc : q_38 = false
              · rw [if_pos hc] at eq_41; rw [hc] at S
                refine wl_pure (l' := [(41, .pointer (some ((⟨b_24, 0, .none⟩ : Addr).add (coff gf1 6)))), (40, .bool false), (39, .bool false), (5, pB b_24), (4, .int .i64 c_6), (3, pB b_2), (0, v0)]) S tys tys_ok 1 (by kernel_rfl) ?_
                clear S; intro a S
                refine w_go S rfl (op_load (t := (.int .i64)) (x := y_18.2.2.2.2.2.2) S rfl ty3 rfl rfl rfl (RepAt.add 6 (RepAt.st (t := gf1) B_25.at_)) ?_)
                clear S; intro a v_42 R_43 S
                obtain ⟨rfl, GR_43⟩ := RepV.int R_43
                refine wl_pure (l' := [(44, .bool (decide (y_18.2.2.2.2.2.2 < 0))), (43, .bool (decide (y_18.2.2.2.2.2.2 < 0))), (42, .int .i64 y_18.2.2.2.2.2.2), (41, .pointer (some ((⟨b_24, 0, .none⟩ : Addr).add (coff gf1 6)))), (40, .bool false), (39, .bool false), (5, pB b_24), (4, .int .i64 c_6), (3, pB b_2), (0, v0)]) S tys tys_ok 2 (by kernel_rfl) ?_
                clear S; intro a S
                obtain rfl := Option.some.inj eq_41
                exact ⟨rfl, S.sub (by exact ⟨rfl, rfl, rfl, rfl, rfl, trivial⟩)⟩
              · rw [if_neg hc] at eq_41; rw [show q_38 = true from (by simpa using hc)] at S
                refine wl_pure (l' := [(44, .bool true), (43, undef), (42, undef), (41, undef), (40, .bool true), (39, .bool true), (5, pB b_24), (4, .int .i64 c_6), (3, pB b_2), (0, v0)]) S tys tys_ok 4 (by kernel_rfl) ?_
                clear S; intro a S
                obtain rfl := Option.some.inj eq_41
                exact ⟨rfl, S.sub (by exact ⟨rfl, rfl, rfl, rfl, rfl, trivial⟩)⟩
            clear S eq_41; rintro a _ ⟨rfl, S⟩
            refine wl_pure (l' := [(45, .bool q_41), (44, .bool q_41), (5, pB b_24), (4, .int .i64 c_6), (3, pB b_2), (0, v0)]) S tys tys_ok 1 (by kernel_rfl) ?_
            clear S; intro a S
            obtain ⟨q_44, eq_44, hl_15⟩ := bindS hl_15
            refine seg 4 (fun a_ w_ => w_28 = w_ ∧ St 129 a_ [(49, .bool q_44), (5, pB b_24), (4, .int .i64 c_6), (3, pB b_2), (0, v0)]) ?_ ?_
            · by_cases hc : q_41 = false
              · rw [if_pos hc] at eq_44; rw [hc] at S
                refine wl_pure (l' := [(46, .pointer (some ((⟨b_24, 0, .none⟩ : Addr).add (coff gf1 6)))), (45, .bool false), (44, .bool false), (5, pB b_24), (4, .int .i64 c_6), (3, pB b_2), (0, v0)]) S tys tys_ok 1 (by kernel_rfl) ?_
                clear S; intro a S
                refine w_go S rfl (op_load (t := (.int .i64)) (x := y_18.2.2.2.2.2.2) S rfl ty3 rfl rfl rfl (RepAt.add 6 (RepAt.st (t := gf1) B_25.at_)) ?_)
                clear S; intro a v_45 R_46 S
                obtain ⟨rfl, GR_46⟩ := RepV.int R_46
                refine wl_pure (l' := [(49, .bool (decide (y_18.2.2.2.2.2.2 > 500))), (48, .bool (decide (y_18.2.2.2.2.2.2 > 500))), (47, .int .i64 y_18.2.2.2.2.2.2), (46, .pointer (some ((⟨b_24, 0, .none⟩ : Addr).add (coff gf1 6)))), (45, .bool false), (44, .bool false), (5, pB b_24), (4, .int .i64 c_6), (3, pB b_2), (0, v0)]) S tys tys_ok 2 (by kernel_rfl) ?_
                clear S; intro a S
                obtain rfl := Option.some.inj eq_44
                exact ⟨rfl, S.sub (by exact ⟨rfl, rfl, rfl, rfl, rfl, trivial⟩)⟩
              · rw [if_neg hc] at eq_44; rw [show q_41 = true from (by simpa using hc)] at S
                refine wl_pure (l' := [(49, .bool true), (48, undef), (47, undef), (46, undef), (45, .bool true), (44, .bool true), (5, pB b_24), (4, .int .i64 c_6), (3, pB b_2), (0, v0)]) S tys tys_ok 4 (by kernel_rfl) ?_
                clear S; intro a S
                obtain rfl := Option.some.inj eq_44
                exact ⟨rfl, S.sub (by exact ⟨rfl, rfl, rfl, rfl, rfl, trivial⟩)⟩
            clear S eq_44; rintro a _ ⟨rfl, S⟩
            refine wl_pure (l' := [(50, .bool q_44), (49, .bool q_44), (5, pB b_24), (4, .int .i64 c_6), (3, pB b_2), (0, v0)]) S tys tys_ok 1 (by kernel_rfl) ?_
            clear S; intro a S
            obtain ⟨q_47, eq_47, hl_15⟩ := bindS hl_15
            refine seg 8 (fun a_ w_ => w_28 = w_ ∧ St 129 a_ [(58, .bool q_47), (5, pB b_24), (4, .int .i64 c_6), (3, pB b_2), (0, v0)]) ?_ ?_
            · by_cases hc : q_44 = false
              · rw [if_pos hc] at eq_47; rw [hc] at S
                refine wl_pure (l' := [(51, .pointer (some ((⟨b_24, 0, .none⟩ : Addr).add (coff gf1 3)))), (50, .bool false), (49, .bool false), (5, pB b_24), (4, .int .i64 c_6), (3, pB b_2), (0, v0)]) S tys tys_ok 1 (by kernel_rfl) ?_
                clear S; intro a S
                refine w_go S rfl (op_load (t := .bool) (x := y_18.2.2.2.1) S rfl ty4 rfl rfl rfl (RepAt.add 3 (RepAt.st (t := gf1) B_25.at_)) ?_)
                clear S; intro a v_48 R_49 S
                obtain rfl := RepV.bool R_49
                refine wl_pure (l' := [(53, .bool y_18.2.2.2.1), (52, .bool y_18.2.2.2.1), (51, .pointer (some ((⟨b_24, 0, .none⟩ : Addr).add (coff gf1 3)))), (50, .bool false), (49, .bool false), (5, pB b_24), (4, .int .i64 c_6), (3, pB b_2), (0, v0)]) S tys tys_ok 1 (by kernel_rfl) ?_
                clear S; intro a S
                obtain ⟨q_50, eq_50, eq_47⟩ := bindS eq_47
                refine seg 4 (fun a_ w_ => w_28 = w_ ∧ St 129 a_ [(57, .bool q_50), (53, .bool y_18.2.2.2.1), (52, .bool y_18.2.2.2.1), (51, .pointer (some ((⟨b_24, 0, .none⟩ : Addr).add (coff gf1 3)))), (50, .bool false), (5, pB b_24), (4, .int .i64 c_6), (3, pB b_2), (0, v0)]) ?_ ?_
                · by_cases hc : y_18.2.2.2.1 = true
                  · rw [if_pos hc] at eq_50; rw [hc] at S
                    refine wl_pure (l' := [(54, .pointer (some ((⟨b_24, 0, .none⟩ : Addr).add (coff gf1 2)))), (53, .bool true), (52, .bool true), (51, .pointer (some ((⟨b_24, 0, .none⟩ : Addr).add (coff gf1 3)))), (50, .bool false), (49, .bool false), (5, pB b_24), (4, .int .i64 c_6), (3, pB b_2), (0, v0)]) S tys tys_ok 1 (by kernel_rfl) ?_
                    clear S; intro a S
                    refine w_go S rfl (op_load (t := .bool) (x := y_18.2.2.1) S rfl ty4 rfl rfl rfl (RepAt.add 2 (RepAt.st (t := gf1) B_25.at_)) ?_)
                    clear S; intro a v_51 R_52 S
                    obtain rfl := RepV.bool R_52
                    refine wl_pure (l' := [(57, .bool (!y_18.2.2.1)), (56, .bool (!y_18.2.2.1)), (55, .bool y_18.2.2.1), (54, .pointer (some ((⟨b_24, 0, .none⟩ : Addr).add (coff gf1 2)))), (53, .bool true), (52, .bool true), (51, .pointer (some ((⟨b_24, 0, .none⟩ : Addr).add (coff gf1 3)))), (50, .bool false), (49, .bool false), (5, pB b_24), (4, .int .i64 c_6), (3, pB b_2), (0, v0)]) S tys tys_ok 2 (by kernel_rfl) ?_
                    clear S; intro a S
                    obtain rfl := Option.some.inj eq_50
                    exact ⟨rfl, S.sub (by exact ⟨rfl, (by rw [show y_18.2.2.2.1 = true from hc]; rfl), (by rw [show y_18.2.2.2.1 = true from hc]; rfl), rfl, rfl, rfl, rfl, rfl, rfl, trivial⟩)⟩
                  · rw [if_neg hc] at eq_50; rw [show y_18.2.2.2.1 = false from Bool.eq_false_iff.2 hc] at S
                    refine wl_pure (l' := [(57, .bool false), (56, undef), (55, undef), (54, undef), (53, .bool false), (52, .bool false), (51, .pointer (some ((⟨b_24, 0, .none⟩ : Addr).add (coff gf1 3)))), (50, .bool false), (49, .bool false), (5, pB b_24), (4, .int .i64 c_6), (3, pB b_2), (0, v0)]) S tys tys_ok 4 (by kernel_rfl) ?_
                    clear S; intro a S
                    obtain rfl := Option.some.inj eq_50
                    exact ⟨rfl, S.sub (by exact ⟨rfl, (by rw [show y_18.2.2.2.1 = false from Bool.eq_false_iff.2 hc]; rfl), (by rw [show y_18.2.2.2.1 = false from Bool.eq_false_iff.2 hc]; rfl), rfl, rfl, rfl, rfl, rfl, rfl, trivial⟩)⟩
                clear S eq_50; rintro a _ ⟨rfl, S⟩
                refine wl_pure (l' := [(58, .bool q_50), (57, .bool q_50), (53, .bool y_18.2.2.2.1), (52, .bool y_18.2.2.2.1), (51, .pointer (some ((⟨b_24, 0, .none⟩ : Addr).add (coff gf1 3)))), (50, .bool false), (5, pB b_24), (4, .int .i64 c_6), (3, pB b_2), (0, v0)]) S tys tys_ok 1 (by kernel_rfl) ?_
                clear S; intro a S
                obtain rfl := Option.some.inj eq_47
                exact ⟨rfl, S.sub (by exact ⟨rfl, rfl, rfl, rfl, rfl, trivial⟩)⟩
              · rw [if_neg hc] at eq_47; rw [show q_44 = true from (by simpa using hc)] at S
                refine wl_pure (l' := [(58, .bool true), (57, undef), (56, undef), (55, undef), (54, undef), (53, undef), (52, undef), (51, undef), (50, .bool true), (49, .bool true), (5, pB b_24), (4, .int .i64 c_6), (3, pB b_2), (0, v0)]) S tys tys_ok 8 (by kernel_rfl) ?_
                clear S; intro a S
                obtain rfl := Option.some.inj eq_47
                exact ⟨rfl, S.sub (by exact ⟨rfl, rfl, rfl, rfl, rfl, trivial⟩)⟩
            clear S eq_47; rintro a _ ⟨rfl, S⟩
            refine wpList_nil ?_
            refine then_n ?_
            refine wp_cond_split (S.eval (show ev _ _ = some (.bool q_47) from rfl)) ?_ ?_
            · intro hc
              rw [if_pos hc] at hl_15
              refine wp_seq ?_
              refine wp_region_lit ?_
              refine wl_pureK (l' := [(2, .int .i64 1)]) S tys tys_ok 1 [2] (by kernel_rfl) ?_
              clear S; intro a S
              refine wpList_nil ?_
              refine then_n ?_
              refine wp_ret ?_
              refine then_r ?_
              refine blk_r ?_
              refine then_r ?_
              refine then_r ?_
              refine blk_r ?_
              refine then_r ?_
              refine then_r ?_
              obtain rfl := Option.some.inj hl_15
              obtain rfl := lr_inr h
              exact b_ret1 S rfl rfl ⟨_, rfl, (RepV.mkInt (by decide)), W.below⟩
            · intro hc
              rw [if_neg (Bool.eq_false_iff.1 hc)] at hl_15
              refine wp_skip ?_
              refine then_n ?_
              replace S := S.sub (l' := [(5, pB b_24), (4, .int .i64 c_6), (3, pB b_2), (0, v0)]) (by exact ⟨rfl, rfl, rfl, rfl, trivial⟩)
              refine wp_seq ?_
              refine wp_seq ?_
              refine wp_region_lit ?_
              refine wl_pure (l' := [(6, .int .i64 0), (5, pB b_24), (4, .int .i64 c_6), (3, pB b_2), (0, v0)]) S tys tys_ok 1 (by kernel_rfl) ?_
              clear S; intro a S
              refine wpList_nil ?_
              refine then_n ?_
              obtain ⟨y_57, ey_57, hl_15⟩ := bindS hl_15
              refine wp_cut_ (fun a_ w_ => ∃ s_58 : Unit, y_57 = .inl s_58 ∧ (St 129 a_ [(0, v0), (3, pB b_2), (4, .int .i64 c_6), (5, pB b_24)] ∧ Wd w w_ [some b_24, some b_2] ∧ RepV (.sl gt1) w_ (Kx K w.heap.size [some b_24, some b_2]) v0 x0 ∧ Bx (.arr 128 (.int .i64)) 26 w_ (Kx K w.heap.size [some b_24, some b_2]) b_2 c_8 ∧ Bx gt1 32 w_ (Kx K w.heap.size [some b_24, some b_2]) b_24 y_18)) ?_ ?_
              · refine wp_block ?_
                refine wp_loop_n (fun m_ a_ w_ => ∃ (c_53 : Int) , St 129 a_ [(6, .int .i64 c_53), (5, pB b_24), (4, .int .i64 c_6), (3, pB b_2), (0, v0)] ∧ Wd w w_ [some b_24, some b_2] ∧ InR .i64 c_53 ∧ RepV (.sl gt1) w_ (Kx K w.heap.size [some b_24, some b_2]) v0 x0 ∧ Bx (.arr 128 (.int .i64)) 26 w_ (Kx K w.heap.size [some b_24, some b_2]) b_2 c_8 ∧ Bx gt1 32 w_ (Kx K w.heap.size [some b_24, some b_2]) b_24 y_18 ∧ p25_l2 n x0 c_6 y_18 m_ c_53 = some y_57) n ?_ ?_
                · skip
                  exact ⟨0, ⟨S.sub (by exact ⟨rfl, rfl, rfl, rfl, rfl, trivial⟩), W, (by decide), R0, B_3, B_25, ey_57⟩⟩
                · clear S W; rintro m_59 a w_61 ⟨c_53, S, W, G_54, R0, B_3, B_25, hl_60⟩
                  cases m_59 with
                  | zero => exact absurd hl_60 (by simp [p25_l2])
                  | succ m_59 =>
                    refine ⟨m_59, rfl, ?_⟩
                    rw [p25_l2] at hl_60
                    refine wp_seq ?_
                    refine wp_seq ?_
                    refine wp_region_lit ?_
                    refine wl_pure (l' := [(61, .bool (decide (c_53 < c_6))), (60, .int .i64 c_6), (59, .int .i64 c_53), (6, .int .i64 c_53), (5, pB b_24), (4, .int .i64 c_6), (3, pB b_2), (0, v0)]) S tys tys_ok 3 (by kernel_rfl) ?_
                    clear S; intro a S
                    refine wpList_nil ?_
                    refine then_n ?_
                    replace S := S.sub (l' := [(61, .bool (decide (c_53 < c_6))), (6, .int .i64 c_53), (5, pB b_24), (4, .int .i64 c_6), (3, pB b_2), (0, v0)]) (by exact ⟨rfl, rfl, rfl, rfl, rfl, rfl, trivial⟩)
                    refine wp_cond_split (S.eval (show ev _ _ = some (.bool (decide (c_53 < c_6))) from rfl)) ?_ ?_
                    · intro hc
                      rw [if_pos hc] at hl_60
                      refine wp_skip ?_
                      refine then_n ?_
                      replace S := S.sub (l' := [(6, .int .i64 c_53), (5, pB b_24), (4, .int .i64 c_6), (3, pB b_2), (0, v0)]) (by exact ⟨rfl, rfl, rfl, rfl, rfl, trivial⟩)
                      refine wp_seq ?_
                      refine wp_block ?_
                      refine wp_seq ?_
                      obtain ⟨y_62, ey_62, hl_60⟩ := bindS hl_60
                      obtain ⟨q_70, eq_70, hl_60⟩ := bindS hl_60
                      obtain ⟨y_72, HG_71⟩ : ∃ (y_72 : Int × Int × Bool × Bool × Bool × Bool × Int) , ((y_62.1 == y_18.1) = true → (idx x0.xs c_53) = some y_72 ∧ (y_72.2.1 == y_18.2.1) = q_70) ∧ (¬ (y_62.1 == y_18.1) = true → false = q_70) := by
                        by_cases hc : (y_62.1 == y_18.1) = true
                        · rw [if_pos hc] at eq_70
                          obtain ⟨y_72, ey_72, eq_70⟩ := bindS eq_70
                          exact ⟨y_72, ⟨fun _ => ⟨ey_72, Option.some.inj eq_70⟩, fun k_ => absurd hc k_⟩⟩
                        · rw [if_neg hc] at eq_70
                          exact ⟨default, ⟨fun k_ => absurd k_ hc, fun _ => Option.some.inj eq_70⟩⟩
                      have hR : Rel (Kx K w.heap.size [some b_24, some b_2]) Bl := Bl.rel _
                      refine wp_region_all hR [isRep (.sl gt1) (Kx K w.heap.size [some b_24, some b_2]) x0, isI .i64 c_53, isEl gt1 (Kx K w.heap.size [some b_24, some b_2]) y_62, isEl (.int .i64) (Kx K w.heap.size [some b_24, some b_2]) y_62.1, isI .i64 y_62.1, eqv (.pointer (some ((⟨b_24, 0, .none⟩ : Addr).add (coff gf1 0)))), isI .i64 y_18.1, eqv (.bool (y_62.1 == y_18.1)), eqv (.bool (y_62.1 == y_18.1)), cndF (y_62.1 == y_18.1) true (isRep (.sl gt1) (Kx K w.heap.size [some b_24, some b_2]) x0), cndF (y_62.1 == y_18.1) true (isI .i64 c_53), cndF (y_62.1 == y_18.1) true (isEl gt1 (Kx K w.heap.size [some b_24, some b_2]) y_72), cndF (y_62.1 == y_18.1) true (isEl (.int .u8) (Kx K w.heap.size [some b_24, some b_2]) y_72.2.1), cndF (y_62.1 == y_18.1) true (isI .u8 y_72.2.1), cndF (y_62.1 == y_18.1) true (eqv (.pointer (some ((⟨b_24, 0, .none⟩ : Addr).add (coff gf1 1))))), cndF (y_62.1 == y_18.1) true (isI .u8 y_18.2.1), cndF (y_62.1 == y_18.1) true (eqv (.bool (y_72.2.1 == y_18.2.1))), eqv (.bool q_70)] [[], [], [(0, 64), (1, 65)], [(2, 66)], [(3, 67)], [], [(5, 69)], [(4, 68), (6, 70)], [(7, 71)], [(8, 72)], [(8, 72)], [(9, 73), (10, 74), (8, 72)], [(11, 75), (8, 72)], [(12, 76), (8, 72)], [(8, 72)], [(14, 78), (8, 72)], [(13, 77), (15, 79), (8, 72)], [(8, 72), (16, 80)]] (by kernel_rfl) (by rw [S.size]; kernel_rfl) (by kernel_rfl) (by kernel_rfl) rfl ⟨(stab_rep hR), stab_I, (stab_el hR), (stab_el hR), stab_I, (stab_eqv _), stab_I, (stab_eqv _), (stab_eqv _), (stab_cnd (stab_rep hR)), (stab_cnd stab_I), (stab_cnd (stab_el hR)), (stab_cnd (stab_el hR)), (stab_cnd stab_I), (stab_cnd (stab_eqv _)), (stab_cnd stab_I), (stab_cnd (stab_eqv _)), (stab_eqv _), trivial⟩ ?_ ?_
                      ·
                        refine RunAll.cons (isRep (.sl gt1) (Kx K w.heap.size [some b_24, some b_2]) x0) [] rfl rfl ?_ ?_
                        · intro W_ hW
                          have S1 := S
                          refine fill_nil S1 ?_; clear S1; intro a_ S1
                          replace R0 := R0.step hW
                          have S0 := S.defers; replace S := S1; clear S1
                          refine wl_pure (l' := [(64, v0), (6, .int .i64 c_53), (5, pB b_24), (4, .int .i64 c_6), (3, pB b_2), (0, v0)]) S tys tys_ok 1 (by kernel_rfl) ?_; clear S; intro a S
                          refine wpList_nil ?_
                          exact RPost.mk_ S rfl S0 R0 (Below.refl _ _)
                        refine RunAll.cons (isI .i64 c_53) [] rfl rfl ?_ ?_
                        · intro W_ hW
                          have S1 := S
                          refine fill_nil S1 ?_; clear S1; intro a_ S1
                          have S0 := S.defers; replace S := S1; clear S1
                          refine wl_pure (l' := [(65, .int .i64 c_53), (6, .int .i64 c_53), (5, pB b_24), (4, .int .i64 c_6), (3, pB b_2), (0, v0)]) S tys tys_ok 1 (by kernel_rfl) ?_; clear S; intro a S
                          refine wpList_nil ?_
                          exact RPost.mk_ S rfl S0 ⟨rfl, G_54⟩ (Below.refl _ _)
                        refine RunAll.cons (isEl gt1 (Kx K w.heap.size [some b_24, some b_2]) y_62) [(isRep (.sl gt1) (Kx K w.heap.size [some b_24, some b_2]) x0, 64), (isI .i64 c_53, 65)] rfl rfl ?_ ?_
                        · intro W_ hW
                          have S1 := S
                          intro v_81 hF_80; replace hF_80 : RepV _ _ _ _ _ := hF_80
                          replace S1 := S1.put (by decide : 64 < 129) (v_81)
                          rintro _ ⟨rfl, hF_82⟩
                          replace S1 := S1.put (by decide : 65 < 129) (.int .i64 c_53)
                          refine fill_nil S1 ?_; clear S1; intro a_ S1
                          replace W := W.step hW
                          have S0 := S.defers; replace S := S1; clear S1
                          refine w_go S rfl (op_indexAddr S rfl ty24 rfl rfl rfl hF_80 rfl ey_62 ?_)
                          clear S; intro a p_84 R_85 H_86 S
                          refine wpList_nil ?_
                          exact RPost.mk_ S rfl S0 ⟨_, rfl, R_85, H_86⟩ (Below.refl _ _)
                        refine RunAll.cons (isEl (.int .i64) (Kx K w.heap.size [some b_24, some b_2]) y_62.1) [(isEl gt1 (Kx K w.heap.size [some b_24, some b_2]) y_62, 66)] rfl rfl ?_ ?_
                        · intro W_ hW
                          have S1 := S
                          rintro _ ⟨p_89, rfl, R_90, H_91⟩
                          replace S1 := S1.put (by decide : 66 < 129) (.pointer (some p_89))
                          refine fill_nil S1 ?_; clear S1; intro a_ S1
                          have S0 := S.defers; replace S := S1; clear S1
                          refine wl_pure (l' := [(67, .pointer (some (p_89.add (coff gf1 0)))), (66, .pointer (some p_89)), (6, .int .i64 c_53), (5, pB b_24), (4, .int .i64 c_6), (3, pB b_2), (0, v0)]) S tys tys_ok 1 (by kernel_rfl) ?_; clear S; intro a S
                          refine wpList_nil ?_
                          exact RPost.mk_ S rfl S0 ⟨_, rfl, (RepAt.add 0 (RepAt.st (t := gf1) R_90)), (by simpa [Addr.add] using H_91)⟩ (Below.refl _ _)
                        refine RunAll.cons (isI .i64 y_62.1) [(isEl (.int .i64) (Kx K w.heap.size [some b_24, some b_2]) y_62.1, 67)] rfl rfl ?_ ?_
                        · intro W_ hW
                          have S1 := S
                          rintro _ ⟨p_94, rfl, R_95, H_96⟩
                          replace S1 := S1.put (by decide : 67 < 129) (.pointer (some p_94))
                          refine fill_nil S1 ?_; clear S1; intro a_ S1
                          have S0 := S.defers; replace S := S1; clear S1
                          refine w_go S rfl (op_load (t := (.int .i64)) (x := y_62.1) S rfl ty3 rfl rfl rfl R_95 ?_)
                          clear S; intro a v_97 R_98 S
                          obtain ⟨rfl, GR_98⟩ := RepV.int R_98
                          refine wpList_nil ?_
                          exact RPost.mk_ S rfl S0 ⟨rfl, GR_98⟩ (Below.refl _ _)
                        refine RunAll.cons (eqv (.pointer (some ((⟨b_24, 0, .none⟩ : Addr).add (coff gf1 0))))) [] rfl rfl ?_ ?_
                        · intro W_ hW
                          have S1 := S
                          refine fill_nil S1 ?_; clear S1; intro a_ S1
                          replace B_25 := B_25.step hW
                          have S0 := S.defers; replace S := S1; clear S1
                          refine wl_pure (l' := [(69, .pointer (some ((⟨b_24, 0, .none⟩ : Addr).add (coff gf1 0)))), (6, .int .i64 c_53), (5, pB b_24), (4, .int .i64 c_6), (3, pB b_2), (0, v0)]) S tys tys_ok 1 (by kernel_rfl) ?_; clear S; intro a S
                          refine wpList_nil ?_
                          exact RPost.mk_ S rfl S0 rfl (Below.refl _ _)
                        refine RunAll.cons (isI .i64 y_18.1) [(eqv (.pointer (some ((⟨b_24, 0, .none⟩ : Addr).add (coff gf1 0)))), 69)] rfl rfl ?_ ?_
                        · intro W_ hW
                          have S1 := S
                          intro v_100 hF_99; obtain rfl : .pointer (some ((⟨b_24, 0, .none⟩ : Addr).add (coff gf1 0))) = v_100 := Eq.symm hF_99
                          replace S1 := S1.put (by decide : 69 < 129) (.pointer (some ((⟨b_24, 0, .none⟩ : Addr).add (coff gf1 0))))
                          refine fill_nil S1 ?_; clear S1; intro a_ S1
                          replace B_25 := B_25.step hW
                          have S0 := S.defers; replace S := S1; clear S1
                          refine w_go S rfl (op_load (t := (.int .i64)) (x := y_18.1) S rfl ty3 rfl rfl rfl (RepAt.add 0 (RepAt.st (t := gf1) B_25.at_)) ?_)
                          clear S; intro a v_101 R_102 S
                          obtain ⟨rfl, GR_102⟩ := RepV.int R_102
                          refine wpList_nil ?_
                          exact RPost.mk_ S rfl S0 ⟨rfl, GR_102⟩ (Below.refl _ _)
                        refine RunAll.cons (eqv (.bool (y_62.1 == y_18.1))) [(isI .i64 y_62.1, 68), (isI .i64 y_18.1, 70)] rfl rfl ?_ ?_
                        · intro W_ hW
                          have S1 := S
                          rintro _ ⟨rfl, hF_103⟩
                          replace S1 := S1.put (by decide : 68 < 129) (.int .i64 y_62.1)
                          rintro _ ⟨rfl, hF_105⟩
                          replace S1 := S1.put (by decide : 70 < 129) (.int .i64 y_18.1)
                          refine fill_nil S1 ?_; clear S1; intro a_ S1
                          have S0 := S.defers; replace S := S1; clear S1
                          refine wl_pure (l' := [(71, .bool (y_62.1 == y_18.1)), (70, .int .i64 y_18.1), (68, .int .i64 y_62.1), (6, .int .i64 c_53), (5, pB b_24), (4, .int .i64 c_6), (3, pB b_2), (0, v0)]) S tys tys_ok 1 (by kernel_rfl) ?_; clear S; intro a S
                          refine wpList_nil ?_
                          exact RPost.mk_ S rfl S0 rfl (Below.refl _ _)
                        refine RunAll.cons (eqv (.bool (y_62.1 == y_18.1))) [(eqv (.bool (y_62.1 == y_18.1)), 71)] rfl rfl ?_ ?_
                        · intro W_ hW
                          have S1 := S
                          intro v_108 hF_107; obtain rfl : .bool (y_62.1 == y_18.1) = v_108 := Eq.symm hF_107
                          replace S1 := S1.put (by decide : 71 < 129) (.bool (y_62.1 == y_18.1))
                          refine fill_nil S1 ?_; clear S1; intro a_ S1
                          have S0 := S.defers; replace S := S1; clear S1
                          refine wl_pure (l' := [(72, .bool (y_62.1 == y_18.1)), (71, .bool (y_62.1 == y_18.1)), (6, .int .i64 c_53), (5, pB b_24), (4, .int .i64 c_6), (3, pB b_2), (0, v0)]) S tys tys_ok 1 (by kernel_rfl) ?_; clear S; intro a S
                          refine wpList_nil ?_
                          exact RPost.mk_ S rfl S0 rfl (Below.refl _ _)
                        refine RunAll.cons (cndF (y_62.1 == y_18.1) true (isRep (.sl gt1) (Kx K w.heap.size [some b_24, some b_2]) x0)) [(eqv (.bool (y_62.1 == y_18.1)), 72)] rfl rfl ?_ ?_
                        · intro W_ hW
                          by_cases hc0 : (y_62.1 == y_18.1) = true
                          · have hl0 : (y_62.1 == y_18.1) = true := hc0
                            have S1 := S
                            intro v_110 hF_109; obtain rfl : .bool (y_62.1 == y_18.1) = v_110 := Eq.symm hF_109
                            replace S1 := S1.put (by decide : 72 < 129) (.bool (y_62.1 == y_18.1))
                            refine fill_nil S1 ?_; clear S1; intro a_ S1
                            replace R0 := R0.step hW
                            rw [show (y_62.1 == y_18.1) = true from hl0] at S1
                            have S0 := S.defers; replace S := S1; clear S1
                            refine wl_pure (l' := [(73, v0), (72, .bool true), (6, .int .i64 c_53), (5, pB b_24), (4, .int .i64 c_6), (3, pB b_2), (0, v0)]) S tys tys_ok 1 (by kernel_rfl) ?_; clear S; intro a S
                            refine wpList_nil ?_
                            exact RPost.mk_ S rfl S0 ⟨fun _ => R0, fun k_ => absurd hc0 k_⟩ (Below.refl _ _)
                          · have hl0 : (y_62.1 == y_18.1) = false := Bool.eq_false_iff.2 hc0
                            have S1 := S
                            intro v_112 hF_111; obtain rfl : .bool (y_62.1 == y_18.1) = v_112 := Eq.symm hF_111
                            replace S1 := S1.put (by decide : 72 < 129) (.bool (y_62.1 == y_18.1))
                            refine fill_nil S1 ?_; clear S1; intro a_ S1
                            rw [show (y_62.1 == y_18.1) = false from hl0] at S1
                            have S0 := S.defers; replace S := S1; clear S1
                            refine wl_pure (l' := [(73, undef), (72, .bool false), (6, .int .i64 c_53), (5, pB b_24), (4, .int .i64 c_6), (3, pB b_2), (0, v0)]) S tys tys_ok 1 (by kernel_rfl) ?_; clear S; intro a S
                            refine wpList_nil ?_
                            exact RPost.mk_ S rfl S0 ⟨fun k_ => absurd k_ hc0, fun _ => rfl⟩ (Below.refl _ _)
                        refine RunAll.cons (cndF (y_62.1 == y_18.1) true (isI .i64 c_53)) [(eqv (.bool (y_62.1 == y_18.1)), 72)] rfl rfl ?_ ?_
                        · intro W_ hW
                          by_cases hc0 : (y_62.1 == y_18.1) = true
                          · have hl0 : (y_62.1 == y_18.1) = true := hc0
                            have S1 := S
                            intro v_114 hF_113; obtain rfl : .bool (y_62.1 == y_18.1) = v_114 := Eq.symm hF_113
                            replace S1 := S1.put (by decide : 72 < 129) (.bool (y_62.1 == y_18.1))
                            refine fill_nil S1 ?_; clear S1; intro a_ S1
                            rw [show (y_62.1 == y_18.1) = true from hl0] at S1
                            have S0 := S.defers; replace S := S1; clear S1
                            refine wl_pure (l' := [(74, .int .i64 c_53), (72, .bool true), (6, .int .i64 c_53), (5, pB b_24), (4, .int .i64 c_6), (3, pB b_2), (0, v0)]) S tys tys_ok 1 (by kernel_rfl) ?_; clear S; intro a S
                            refine wpList_nil ?_
                            exact RPost.mk_ S rfl S0 ⟨fun _ => ⟨rfl, G_54⟩, fun k_ => absurd hc0 k_⟩ (Below.refl _ _)
                          · have hl0 : (y_62.1 == y_18.1) = false := Bool.eq_false_iff.2 hc0
                            have S1 := S
                            intro v_116 hF_115; obtain rfl : .bool (y_62.1 == y_18.1) = v_116 := Eq.symm hF_115
                            replace S1 := S1.put (by decide : 72 < 129) (.bool (y_62.1 == y_18.1))
                            refine fill_nil S1 ?_; clear S1; intro a_ S1
                            rw [show (y_62.1 == y_18.1) = false from hl0] at S1
                            have S0 := S.defers; replace S := S1; clear S1
                            refine wl_pure (l' := [(74, undef), (72, .bool false), (6, .int .i64 c_53), (5, pB b_24), (4, .int .i64 c_6), (3, pB b_2), (0, v0)]) S tys tys_ok 1 (by kernel_rfl) ?_; clear S; intro a S
                            refine wpList_nil ?_
                            exact RPost.mk_ S rfl S0 ⟨fun k_ => absurd k_ hc0, fun _ => rfl⟩ (Below.refl _ _)
                        refine RunAll.cons (cndF (y_62.1 == y_18.1) true (isEl gt1 (Kx K w.heap.size [some b_24, some b_2]) y_72)) [(cndF (y_62.1 == y_18.1) true (isRep (.sl gt1) (Kx K w.heap.size [some b_24, some b_2]) x0), 73), (cndF (y_62.1 == y_18.1) true (isI .i64 c_53), 74), (eqv (.bool (y_62.1 == y_18.1)), 72)] rfl rfl ?_ ?_
                        · intro W_ hW
                          by_cases hc0 : (y_62.1 == y_18.1) = true
                          · have hl0 : (y_62.1 == y_18.1) = true := hc0
                            have S1 := S
                            intro v_117 hF_118
                            replace hF_118 := cndF.pos hF_118 hc0
                            revert hF_118
                            revert v_117
                            intro v_120 hF_119; replace hF_119 : RepV _ _ _ _ _ := hF_119
                            replace S1 := S1.put (by decide : 73 < 129) (v_120)
                            intro v_121 hF_122
                            replace hF_122 := cndF.pos hF_122 hc0
                            revert hF_122
                            revert v_121
                            rintro _ ⟨rfl, hF_123⟩
                            replace S1 := S1.put (by decide : 74 < 129) (.int .i64 c_53)
                            intro v_126 hF_125; obtain rfl : .bool (y_62.1 == y_18.1) = v_126 := Eq.symm hF_125
                            replace S1 := S1.put (by decide : 72 < 129) (.bool (y_62.1 == y_18.1))
                            refine fill_nil S1 ?_; clear S1; intro a_ S1
                            replace W := W.step hW
                            rw [show (y_62.1 == y_18.1) = true from hl0] at S1
                            have S0 := S.defers; replace S := S1; clear S1
                            obtain ⟨ey_72, _⟩ := (HG_71).1 hc0
                            refine w_go S rfl (op_indexAddr S rfl ty24 rfl rfl rfl hF_119 rfl ey_72 ?_)
                            clear S; intro a p_127 R_128 H_129 S
                            refine wpList_nil ?_
                            exact RPost.mk_ S rfl S0 ⟨fun _ => ⟨_, rfl, R_128, H_129⟩, fun k_ => absurd hc0 k_⟩ (Below.refl _ _)
                          · have hl0 : (y_62.1 == y_18.1) = false := Bool.eq_false_iff.2 hc0
                            have S1 := S
                            intro v_130 hF_131
                            obtain rfl := cndF.neg hF_131 hc0
                            replace S1 := S1.put (by decide : 73 < 129) (undef)
                            intro v_132 hF_133
                            obtain rfl := cndF.neg hF_133 hc0
                            replace S1 := S1.put (by decide : 74 < 129) (undef)
                            intro v_135 hF_134; obtain rfl : .bool (y_62.1 == y_18.1) = v_135 := Eq.symm hF_134
                            replace S1 := S1.put (by decide : 72 < 129) (.bool (y_62.1 == y_18.1))
                            refine fill_nil S1 ?_; clear S1; intro a_ S1
                            rw [show (y_62.1 == y_18.1) = false from hl0] at S1
                            have S0 := S.defers; replace S := S1; clear S1
                            refine wl_pure (l' := [(75, undef), (72, .bool false), (74, undef), (73, undef), (6, .int .i64 c_53), (5, pB b_24), (4, .int .i64 c_6), (3, pB b_2), (0, v0)]) S tys tys_ok 1 (by kernel_rfl) ?_; clear S; intro a S
                            refine wpList_nil ?_
                            exact RPost.mk_ S rfl S0 ⟨fun k_ => absurd k_ hc0, fun _ => rfl⟩ (Below.refl _ _)
                        refine RunAll.cons (cndF (y_62.1 == y_18.1) true (isEl (.int .u8) (Kx K w.heap.size [some b_24, some b_2]) y_72.2.1)) [(cndF (y_62.1 == y_18.1) true (isEl gt1 (Kx K w.heap.size [some b_24, some b_2]) y_72), 75), (eqv (.bool (y_62.1 == y_18.1)), 72)] rfl rfl ?_ ?_
                        · intro W_ hW
                          by_cases hc0 : (y_62.1 == y_18.1) = true
                          · have hl0 : (y_62.1 == y_18.1) = true := hc0
                            have S1 := S
                            intro v_136 hF_137
                            replace hF_137 := cndF.pos hF_137 hc0
                            revert hF_137
                            revert v_136
                            rintro _ ⟨p_140, rfl, R_141, H_142⟩
                            replace S1 := S1.put (by decide : 75 < 129) (.pointer (some p_140))
                            intro v_144 hF_143; obtain rfl : .bool (y_62.1 == y_18.1) = v_144 := Eq.symm hF_143
                            replace S1 := S1.put (by decide : 72 < 129) (.bool (y_62.1 == y_18.1))
                            refine fill_nil S1 ?_; clear S1; intro a_ S1
                            rw [show (y_62.1 == y_18.1) = true from hl0] at S1
                            have S0 := S.defers; replace S := S1; clear S1
                            refine wl_pure (l' := [(76, .pointer (some (p_140.add (coff gf1 1)))), (72, .bool true), (75, .pointer (some p_140)), (6, .int .i64 c_53), (5, pB b_24), (4, .int .i64 c_6), (3, pB b_2), (0, v0)]) S tys tys_ok 1 (by kernel_rfl) ?_; clear S; intro a S
                            refine wpList_nil ?_
                            exact RPost.mk_ S rfl S0 ⟨fun _ => ⟨_, rfl, (RepAt.add 1 (RepAt.st (t := gf1) R_141)), (by simpa [Addr.add] using H_142)⟩, fun k_ => absurd hc0 k_⟩ (Below.refl _ _)
                          · have hl0 : (y_62.1 == y_18.1) = false := Bool.eq_false_iff.2 hc0
                            have S1 := S
                            intro v_145 hF_146
                            obtain rfl := cndF.neg hF_146 hc0
                            replace S1 := S1.put (by decide : 75 < 129) (undef)
                            intro v_148 hF_147; obtain rfl : .bool (y_62.1 == y_18.1) = v_148 := Eq.symm hF_147
                            replace S1 := S1.put (by decide : 72 < 129) (.bool (y_62.1 == y_18.1))
                            refine fill_nil S1 ?_; clear S1; intro a_ S1
                            rw [show (y_62.1 == y_18.1) = false from hl0] at S1
                            have S0 := S.defers; replace S := S1; clear S1
                            refine wl_pure (l' := [(76, undef), (72, .bool false), (75, undef), (6, .int .i64 c_53), (5, pB b_24), (4, .int .i64 c_6), (3, pB b_2), (0, v0)]) S tys tys_ok 1 (by kernel_rfl) ?_; clear S; intro a S
                            refine wpList_nil ?_
                            exact RPost.mk_ S rfl S0 ⟨fun k_ => absurd k_ hc0, fun _ => rfl⟩ (Below.refl _ _)
                        refine RunAll.cons (cndF (y_62.1 == y_18.1) true (isI .u8 y_72.2.1)) [(cndF (y_62.1 == y_18.1) true (isEl (.int .u8) (Kx K w.heap.size [some b_24, some b_2]) y_72.2.1), 76), (eqv (.bool (y_62.1 == y_18.1)), 72)] rfl rfl ?_ ?_
                        · intro W_ hW
                          by_cases hc0 : (y_62.1 == y_18.1) = true
                          · have hl0 : (y_62.1 == y_18.1) = true := hc0
                            have S1 := S
                            intro v_149 hF_150
                            replace hF_150 := cndF.pos hF_150 hc0
                            revert hF_150
                            revert v_149
                            rintro _ ⟨p_153, rfl, R_154, H_155⟩
                            replace S1 := S1.put (by decide : 76 < 129) (.pointer (some p_153))
                            intro v_157 hF_156; obtain rfl : .bool (y_62.1 == y_18.1) = v_157 := Eq.symm hF_156
                            replace S1 := S1.put (by decide : 72 < 129) (.bool (y_62.1 == y_18.1))
                            refine fill_nil S1 ?_; clear S1; intro a_ S1
                            rw [show (y_62.1 == y_18.1) = true from hl0] at S1
                            have S0 := S.defers; replace S := S1; clear S1
                            obtain ⟨ey_72, _⟩ := (HG_71).1 hc0
                            refine w_go S rfl (op_load (t := (.int .u8)) (x := y_72.2.1) S rfl ty5 rfl rfl rfl R_154 ?_)
                            clear S; intro a v_158 R_159 S
                            obtain ⟨rfl, GR_159⟩ := RepV.int R_159
                            refine wpList_nil ?_
                            exact RPost.mk_ S rfl S0 ⟨fun _ => ⟨rfl, GR_159⟩, fun k_ => absurd hc0 k_⟩ (Below.refl _ _)
                          · have hl0 : (y_62.1 == y_18.1) = false := Bool.eq_false_iff.2 hc0
                            have S1 := S
                            intro v_160 hF_161
                            obtain rfl := cndF.neg hF_161 hc0
                            replace S1 := S1.put (by decide : 76 < 129) (undef)
                            intro v_163 hF_162; obtain rfl : .bool (y_62.1 == y_18.1) = v_163 := Eq.symm hF_162
                            replace S1 := S1.put (by decide : 72 < 129) (.bool (y_62.1 == y_18.1))
                            refine fill_nil S1 ?_; clear S1; intro a_ S1
                            rw [show (y_62.1 == y_18.1) = false from hl0] at S1
                            have S0 := S.defers; replace S := S1; clear S1
                            refine wl_pure (l' := [(77, undef), (72, .bool false), (76, undef), (6, .int .i64 c_53), (5, pB b_24), (4, .int .i64 c_6), (3, pB b_2), (0, v0)]) S tys tys_ok 1 (by kernel_rfl) ?_; clear S; intro a S
                            refine wpList_nil ?_
                            exact RPost.mk_ S rfl S0 ⟨fun k_ => absurd k_ hc0, fun _ => rfl⟩ (Below.refl _ _)
                        refine RunAll.cons (cndF (y_62.1 == y_18.1) true (eqv (.pointer (some ((⟨b_24, 0, .none⟩ : Addr).add (coff gf1 1)))))) [(eqv (.bool (y_62.1 == y_18.1)), 72)] rfl rfl ?_ ?_
                        · intro W_ hW
                          by_cases hc0 : (y_62.1 == y_18.1) = true
                          · have hl0 : (y_62.1 == y_18.1) = true := hc0
                            have S1 := S
                            intro v_165 hF_164; obtain rfl : .bool (y_62.1 == y_18.1) = v_165 := Eq.symm hF_164
                            replace S1 := S1.put (by decide : 72 < 129) (.bool (y_62.1 == y_18.1))
                            refine fill_nil S1 ?_; clear S1; intro a_ S1
                            replace B_25 := B_25.step hW
                            rw [show (y_62.1 == y_18.1) = true from hl0] at S1
                            have S0 := S.defers; replace S := S1; clear S1
                            refine wl_pure (l' := [(78, .pointer (some ((⟨b_24, 0, .none⟩ : Addr).add (coff gf1 1)))), (72, .bool true), (6, .int .i64 c_53), (5, pB b_24), (4, .int .i64 c_6), (3, pB b_2), (0, v0)]) S tys tys_ok 1 (by kernel_rfl) ?_; clear S; intro a S
                            refine wpList_nil ?_
                            exact RPost.mk_ S rfl S0 ⟨fun _ => rfl, fun k_ => absurd hc0 k_⟩ (Below.refl _ _)
                          · have hl0 : (y_62.1 == y_18.1) = false := Bool.eq_false_iff.2 hc0
                            have S1 := S
                            intro v_167 hF_166; obtain rfl : .bool (y_62.1 == y_18.1) = v_167 := Eq.symm hF_166
                            replace S1 := S1.put (by decide : 72 < 129) (.bool (y_62.1 == y_18.1))
                            refine fill_nil S1 ?_; clear S1; intro a_ S1
                            rw [show (y_62.1 == y_18.1) = false from hl0] at S1
                            have S0 := S.defers; replace S := S1; clear S1
                            refine wl_pure (l' := [(78, undef), (72, .bool false), (6, .int .i64 c_53), (5, pB b_24), (4, .int .i64 c_6), (3, pB b_2), (0, v0)]) S tys tys_ok 1 (by kernel_rfl) ?_; clear S; intro a S
                            refine wpList_nil ?_
                            exact RPost.mk_ S rfl S0 ⟨fun k_ => absurd k_ hc0, fun _ => rfl⟩ (Below.refl _ _)
                        refine RunAll.cons (cndF (y_62.1 == y_18.1) true (isI .u8 y_18.2.1)) [(cndF (y_62.1 == y_18.1) true (eqv (.pointer (some ((⟨b_24, 0, .none⟩ : Addr).add (coff gf1 1))))), 78), (eqv (.bool (y_62.1 == y_18.1)), 72)] rfl rfl ?_ ?_
                        · intro W_ hW
                          by_cases hc0 : (y_62.1 == y_18.1) = true
                          · have hl0 : (y_62.1 == y_18.1) = true := hc0
                            have S1 := S
                            intro v_168 hF_169
                            replace hF_169 := cndF.pos hF_169 hc0
                            revert hF_169
                            revert v_168
                            intro v_171 hF_170; obtain rfl : .pointer (some ((⟨b_24, 0, .none⟩ : Addr).add (coff gf1 1))) = v_171 := Eq.symm hF_170
                            replace S1 := S1.put (by decide : 78 < 129) (.pointer (some ((⟨b_24, 0, .none⟩ : Addr).add (coff gf1 1))))
                            intro v_173 hF_172; obtain rfl : .bool (y_62.1 == y_18.1) = v_173 := Eq.symm hF_172
                            replace S1 := S1.put (by decide : 72 < 129) (.bool (y_62.1 == y_18.1))
                            refine fill_nil S1 ?_; clear S1; intro a_ S1
                            replace B_25 := B_25.step hW
                            rw [show (y_62.1 == y_18.1) = true from hl0] at S1
                            have S0 := S.defers; replace S := S1; clear S1
                            obtain ⟨ey_72, _⟩ := (HG_71).1 hc0
                            refine w_go S rfl (op_load (t := (.int .u8)) (x := y_18.2.1) S rfl ty5 rfl rfl rfl (RepAt.add 1 (RepAt.st (t := gf1) B_25.at_)) ?_)
                            clear S; intro a v_174 R_175 S
                            obtain ⟨rfl, GR_175⟩ := RepV.int R_175
                            refine wpList_nil ?_
                            exact RPost.mk_ S rfl S0 ⟨fun _ => ⟨rfl, GR_175⟩, fun k_ => absurd hc0 k_⟩ (Below.refl _ _)
                          · have hl0 : (y_62.1 == y_18.1) = false := Bool.eq_false_iff.2 hc0
                            have S1 := S
                            intro v_176 hF_177
                            obtain rfl := cndF.neg hF_177 hc0
                            replace S1 := S1.put (by decide : 78 < 129) (undef)
                            intro v_179 hF_178; obtain rfl : .bool (y_62.1 == y_18.1) = v_179 := Eq.symm hF_178
                            replace S1 := S1.put (by decide : 72 < 129) (.bool (y_62.1 == y_18.1))
                            refine fill_nil S1 ?_; clear S1; intro a_ S1
                            rw [show (y_62.1 == y_18.1) = false from hl0] at S1
                            have S0 := S.defers; replace S := S1; clear S1
                            refine wl_pure (l' := [(79, undef), (72, .bool false), (78, undef), (6, .int .i64 c_53), (5, pB b_24), (4, .int .i64 c_6), (3, pB b_2), (0, v0)]) S tys tys_ok 1 (by kernel_rfl) ?_; clear S; intro a S
                            refine wpList_nil ?_
                            exact RPost.mk_ S rfl S0 ⟨fun k_ => absurd k_ hc0, fun _ => rfl⟩ (Below.refl _ _)
                        refine RunAll.cons (cndF (y_62.1 == y_18.1) true (eqv (.bool (y_72.2.1 == y_18.2.1)))) [(cndF (y_62.1 == y_18.1) true (isI .u8 y_72.2.1), 77), (cndF (y_62.1 == y_18.1) true (isI .u8 y_18.2.1), 79), (eqv (.bool (y_62.1 == y_18.1)), 72)] rfl rfl ?_ ?_
                        · intro W_ hW
                          by_cases hc0 : (y_62.1 == y_18.1) = true
                          · have hl0 : (y_62.1 == y_18.1) = true := hc0
                            have S1 := S
                            intro v_180 hF_181
                            replace hF_181 := cndF.pos hF_181 hc0
                            revert hF_181
                            revert v_180
                            rintro _ ⟨rfl, hF_182⟩
                            replace S1 := S1.put (by decide : 77 < 129) (.int .u8 y_72.2.1)
                            intro v_184 hF_185
                            replace hF_185 := cndF.pos hF_185 hc0
                            revert hF_185
                            revert v_184
                            rintro _ ⟨rfl, hF_186⟩
                            replace S1 := S1.put (by decide : 79 < 129) (.int .u8 y_18.2.1)
                            intro v_189 hF_188; obtain rfl : .bool (y_62.1 == y_18.1) = v_189 := Eq.symm hF_188
                            replace S1 := S1.put (by decide : 72 < 129) (.bool (y_62.1 == y_18.1))
                            refine fill_nil S1 ?_; clear S1; intro a_ S1
                            rw [show (y_62.1 == y_18.1) = true from hl0] at S1
                            have S0 := S.defers; replace S := S1; clear S1
                            refine wl_pure (l' := [(80, .bool (y_72.2.1 == y_18.2.1)), (72, .bool true), (79, .int .u8 y_18.2.1), (77, .int .u8 y_72.2.1), (6, .int .i64 c_53), (5, pB b_24), (4, .int .i64 c_6), (3, pB b_2), (0, v0)]) S tys tys_ok 1 (by kernel_rfl) ?_; clear S; intro a S
                            refine wpList_nil ?_
                            exact RPost.mk_ S rfl S0 ⟨fun _ => rfl, fun k_ => absurd hc0 k_⟩ (Below.refl _ _)
                          · have hl0 : (y_62.1 == y_18.1) = false := Bool.eq_false_iff.2 hc0
                            have S1 := S
                            intro v_190 hF_191
                            obtain rfl := cndF.neg hF_191 hc0
                            replace S1 := S1.put (by decide : 77 < 129) (undef)
                            intro v_192 hF_193
                            obtain rfl := cndF.neg hF_193 hc0
                            replace S1 := S1.put (by decide : 79 < 129) (undef)
                            intro v_195 hF_194; obtain rfl : .bool (y_62.1 == y_18.1) = v_195 := Eq.symm hF_194
                            replace S1 := S1.put (by decide : 72 < 129) (.bool (y_62.1 == y_18.1))
                            refine fill_nil S1 ?_; clear S1; intro a_ S1
                            rw [show (y_62.1 == y_18.1) = false from hl0] at S1
                            have S0 := S.defers; replace S := S1; clear S1
                            refine wl_pure (l' := [(80, undef), (72, .bool false), (79, undef), (77, undef), (6, .int .i64 c_53), (5, pB b_24), (4, .int .i64 c_6), (3, pB b_2), (0, v0)]) S tys tys_ok 1 (by kernel_rfl) ?_; clear S; intro a S
                            refine wpList_nil ?_
                            exact RPost.mk_ S rfl S0 ⟨fun k_ => absurd k_ hc0, fun _ => rfl⟩ (Below.refl _ _)
                        refine RunAll.cons (eqv (.bool q_70)) [(eqv (.bool (y_62.1 == y_18.1)), 72), (cndF (y_62.1 == y_18.1) true (eqv (.bool (y_72.2.1 == y_18.2.1))), 80)] rfl rfl ?_ ?_
                        · intro W_ hW
                          by_cases hc0 : (y_62.1 == y_18.1) = true
                          · have hl0 : (y_62.1 == y_18.1) = true := hc0
                            have S1 := S
                            intro v_197 hF_196; obtain rfl : .bool (y_62.1 == y_18.1) = v_197 := Eq.symm hF_196
                            replace S1 := S1.put (by decide : 72 < 129) (.bool (y_62.1 == y_18.1))
                            intro v_198 hF_199
                            replace hF_199 := cndF.pos hF_199 hc0
                            revert hF_199
                            revert v_198
                            intro v_201 hF_200; obtain rfl : .bool (y_72.2.1 == y_18.2.1) = v_201 := Eq.symm hF_200
                            replace S1 := S1.put (by decide : 80 < 129) (.bool (y_72.2.1 == y_18.2.1))
                            refine fill_nil S1 ?_; clear S1; intro a_ S1
                            rw [show (y_62.1 == y_18.1) = true from hl0] at S1
                            have S0 := S.defers; replace S := S1; clear S1
                            refine wl_pure (l' := [(81, .bool (y_72.2.1 == y_18.2.1)), (80, .bool (y_72.2.1 == y_18.2.1)), (72, .bool true), (6, .int .i64 c_53), (5, pB b_24), (4, .int .i64 c_6), (3, pB b_2), (0, v0)]) S tys tys_ok 1 (by kernel_rfl) ?_; clear S; intro a S
                            refine wpList_nil ?_
                            exact RPost.mk_ S rfl S0 (congrArg Value.bool ((HG_71).1 hc0).2) (Below.refl _ _)
                          · have hl0 : (y_62.1 == y_18.1) = false := Bool.eq_false_iff.2 hc0
                            have S1 := S
                            intro v_203 hF_202; obtain rfl : .bool (y_62.1 == y_18.1) = v_203 := Eq.symm hF_202
                            replace S1 := S1.put (by decide : 72 < 129) (.bool (y_62.1 == y_18.1))
                            intro v_204 hF_205
                            obtain rfl := cndF.neg hF_205 hc0
                            replace S1 := S1.put (by decide : 80 < 129) (undef)
                            refine fill_nil S1 ?_; clear S1; intro a_ S1
                            rw [show (y_62.1 == y_18.1) = false from hl0] at S1
                            have S0 := S.defers; replace S := S1; clear S1
                            refine wl_pure (l' := [(81, .bool false), (80, undef), (72, .bool false), (6, .int .i64 c_53), (5, pB b_24), (4, .int .i64 c_6), (3, pB b_2), (0, v0)]) S tys tys_ok 1 (by kernel_rfl) ?_; clear S; intro a S
                            refine wpList_nil ?_
                            exact RPost.mk_ S rfl S0 (congrArg Value.bool ((HG_71).2 hc0)) (Below.refl _ _)
                        exact trivial
                      intro w_206 hb_207
                      refine EndE.some_ rfl ?_
                      intro v_209 hF_208; replace hF_208 : RepV _ _ _ _ _ := hF_208
                      replace S := S.put (by decide : 64 < 129) (v_209)
                      refine EndE.some_ rfl ?_
                      rintro _ ⟨rfl, hF_210⟩
                      replace S := S.put (by decide : 65 < 129) (.int .i64 c_53)
                      refine EndE.some_ rfl ?_
                      rintro _ ⟨p_214, rfl, R_215, H_216⟩
                      replace S := S.put (by decide : 66 < 129) (.pointer (some p_214))
                      refine EndE.some_ rfl ?_
                      rintro _ ⟨p_219, rfl, R_220, H_221⟩
                      replace S := S.put (by decide : 67 < 129) (.pointer (some p_219))
                      refine EndE.some_ rfl ?_
                      rintro _ ⟨rfl, hF_222⟩
                      replace S := S.put (by decide : 68 < 129) (.int .i64 y_62.1)
                      refine EndE.some_ rfl ?_
                      intro v_225 hF_224; obtain rfl : .pointer (some ((⟨b_24, 0, .none⟩ : Addr).add (coff gf1 0))) = v_225 := Eq.symm hF_224
                      replace S := S.put (by decide : 69 < 129) (.pointer (some ((⟨b_24, 0, .none⟩ : Addr).add (coff gf1 0))))
                      refine EndE.some_ rfl ?_
                      rintro _ ⟨rfl, hF_226⟩
                      replace S := S.put (by decide : 70 < 129) (.int .i64 y_18.1)
                      refine EndE.some_ rfl ?_
                      intro v_229 hF_228; obtain rfl : .bool (y_62.1 == y_18.1) = v_229 := Eq.symm hF_228
                      replace S := S.put (by decide : 71 < 129) (.bool (y_62.1 == y_18.1))
                      refine EndE.some_ rfl ?_
                      intro v_231 hF_230; obtain rfl : .bool (y_62.1 == y_18.1) = v_231 := Eq.symm hF_230
                      replace S := S.put (by decide : 72 < 129) (.bool (y_62.1 == y_18.1))
                      refine EndE.some_ rfl ?_
                      intro v_232 _
                      replace S := S.put (by decide : 73 < 129) (v_232)
                      refine EndE.some_ rfl ?_
                      intro v_233 _
                      replace S := S.put (by decide : 74 < 129) (v_233)
                      refine EndE.some_ rfl ?_
                      intro v_234 _
                      replace S := S.put (by decide : 75 < 129) (v_234)
                      refine EndE.some_ rfl ?_
                      intro v_235 _
                      replace S := S.put (by decide : 76 < 129) (v_235)
                      refine EndE.some_ rfl ?_
                      intro v_236 _
                      replace S := S.put (by decide : 77 < 129) (v_236)
                      refine EndE.some_ rfl ?_
                      intro v_237 _
                      replace S := S.put (by decide : 78 < 129) (v_237)
                      refine EndE.some_ rfl ?_
                      intro v_238 _
                      replace S := S.put (by decide : 79 < 129) (v_238)
                      refine EndE.some_ rfl ?_
                      intro v_239 _
                      replace S := S.put (by decide : 80 < 129) (v_239)
                      refine EndE.some_ rfl ?_
                      intro v_241 hF_240; obtain rfl : .bool q_70 = v_241 := Eq.symm hF_240
                      replace S := S.put (by decide : 81 < 129) (.bool q_70)
                      refine endE_nil S ?_; clear S; intro a S
                      replace R0 := R0.step hb_207
                      replace B_3 := B_3.step hb_207
                      replace B_25 := B_25.step hb_207
                      replace W := W.step hb_207
                      refine then_n ?_
                      replace S := S.sub (l' := [(81, .bool q_70), (6, .int .i64 c_53), (5, pB b_24), (4, .int .i64 c_6), (3, pB b_2), (0, v0)]) (by exact ⟨rfl, rfl, rfl, rfl, rfl, rfl, trivial⟩)
                      refine wp_cond_split (S.eval (show ev _ _ = some (.bool q_70) from rfl)) ?_ ?_
                      · intro hc
                        rw [if_pos hc] at hl_60
                        refine wp_seq ?_
                        refine wp_region_lit ?_
                        refine wl_pureK (l' := [(2, .int .i64 1)]) S tys tys_ok 1 [2] (by kernel_rfl) ?_
                        clear S; intro a S
                        refine wpList_nil ?_
                        refine then_n ?_
                        refine wp_ret ?_
                        refine blk_r ?_
                        refine then_r ?_
                        refine then_r ?_
                        refine blk_r ?_
                        refine then_r ?_
                        refine then_r ?_
                        refine blk_r ?_
                        refine then_r ?_
                        refine then_r ?_
                        refine blk_r ?_
                        refine then_r ?_
                        refine then_r ?_
                        obtain rfl := Option.some.inj hl_60
                        have hq_ := lr_inr2 hl_15; subst hq_
                        obtain rfl := lr_inr h
                        exact b_ret1 S rfl rfl ⟨_, rfl, (RepV.mkInt (by decide)), W.below⟩
                      · intro hc
                        rw [if_neg (Bool.eq_false_iff.1 hc)] at hl_60
                        refine wp_skip ?_
                        refine blk_n ?_
                        refine then_n ?_
                        replace S := S.sub (l' := [(6, .int .i64 c_53), (5, pB b_24), (4, .int .i64 c_6), (3, pB b_2), (0, v0)]) (by exact ⟨rfl, rfl, rfl, rfl, rfl, trivial⟩)
                        refine wp_region_lit ?_
                        refine wl_pure (l' := [(62, .int .i64 c_53), (6, .int .i64 c_53), (5, pB b_24), (4, .int .i64 c_6), (3, pB b_2), (0, v0)]) S tys tys_ok 1 (by kernel_rfl) ?_
                        clear S; intro a S
                        obtain ⟨x_242, ex_242, hl_60⟩ := bindS hl_60
                        refine w_go S rfl (op_arith S .i64 (c_53 + 1) rfl (.inl rfl) rfl rfl rfl rfl ex_242 ?_)
                        clear S; intro a S
                        refine wl_pure (l' := [(6, .int .i64 x_242), (63, .int .i64 x_242), (62, .int .i64 c_53), (6, .int .i64 c_53), (5, pB b_24), (4, .int .i64 c_6), (3, pB b_2), (0, v0)]) S tys tys_ok 1 (by kernel_rfl) ?_
                        clear S; intro a S
                        refine wpList_nil ?_
                        refine then_n ?_
                        exact ⟨x_242, ⟨S.sub (by exact ⟨rfl, rfl, rfl, rfl, rfl, trivial⟩), W, (ckI_some ex_242).2.1, R0, B_3, B_25, hl_60⟩⟩
                    · intro hc
                      rw [if_neg (Bool.eq_false_iff.1 hc)] at hl_60
                      refine wp_exit ?_
                      refine then_x ?_
                      refine then_x ?_
                      refine blk_hit ?_
                      refine then_n ?_
                      obtain rfl := Option.some.inj hl_60
                      exact ⟨_, rfl, ⟨S.sub (by exact ⟨rfl, rfl, rfl, rfl, trivial⟩), W, R0, B_3, B_25⟩⟩
              clear S W; rintro a w_243 ⟨s_58, rfl, S, W, R0, B_3, B_25⟩
              replace hl_15 := lr_inl hl_15; try dsimp only at hl_15
              refine then_n ?_
              refine wp_seq ?_
              refine wp_seq ?_
              refine wp_region_lit ?_
              refine wl_pure (l' := [(82, .pointer (some ((⟨b_24, 0, .none⟩ : Addr).add (coff gf1 0)))), (0, v0), (3, pB b_2), (4, .int .i64 c_6), (5, pB b_24)]) S tys tys_ok 1 (by kernel_rfl) ?_
              clear S; intro a S
              refine w_go S rfl (op_load (t := (.int .i64)) (x := y_18.1) S rfl ty3 rfl rfl rfl (RepAt.add 0 (RepAt.st (t := gf1) B_25.at_)) ?_)
              clear S; intro a v_244 R_245 S
              obtain ⟨rfl, GR_245⟩ := RepV.int R_245
              refine wl_pure (l' := [(84, .bool (decide (y_18.1 ≥ 0))), (83, .int .i64 y_18.1), (82, .pointer (some ((⟨b_24, 0, .none⟩ : Addr).add (coff gf1 0)))), (0, v0), (3, pB b_2), (4, .int .i64 c_6), (5, pB b_24)]) S tys tys_ok 1 (by kernel_rfl) ?_
              clear S; intro a S
              refine wpList_nil ?_
              refine then_n ?_
              replace S := S.sub (l' := [(84, .bool (decide (y_18.1 ≥ 0))), (0, v0), (3, pB b_2), (4, .int .i64 c_6), (5, pB b_24)]) (by exact ⟨rfl, rfl, rfl, rfl, rfl, trivial⟩)
              obtain ⟨j_246, ej_246, hl_15⟩ := bindS hl_15
              refine wp_cut_ (fun a_ w_ => ∃ s_247 : (List (Int)), j_246 = .inl s_247 ∧ (St 129 a_ [(0, v0), (3, pB b_2), (4, .int .i64 c_6), (5, pB b_24)] ∧ Wd w w_ [some b_24, some b_2] ∧ RepV (.sl gt1) w_ (Kx K w.heap.size [some b_24, some b_2]) v0 x0 ∧ Bx (.arr 128 (.int .i64)) 26 w_ (Kx K w.heap.size [some b_24, some b_2]) b_2 s_247 ∧ Bx gt1 32 w_ (Kx K w.heap.size [some b_24, some b_2]) b_24 y_18)) ?_ ?_
              · refine wp_cond_split (S.eval (show ev _ _ = some (.bool (decide (y_18.1 ≥ 0))) from rfl)) ?_ ?_
                · intro hc
                  rw [if_pos hc] at ej_246
                  refine wp_seq ?_
                  refine wp_region_lit ?_
                  refine wl_pure (l' := [(86, .pointer (some ((⟨b_24, 0, .none⟩ : Addr).add (coff gf1 0)))), (85, v0), (84, .bool (decide (y_18.1 ≥ 0))), (0, v0), (3, pB b_2), (4, .int .i64 c_6), (5, pB b_24)]) S tys tys_ok 2 (by kernel_rfl) ?_
                  clear S; intro a S
                  refine w_go S rfl (op_load (t := (.int .i64)) (x := y_18.1) S rfl ty3 rfl rfl rfl (RepAt.add 0 (RepAt.st (t := gf1) B_25.at_)) ?_)
                  clear S; intro a v_248 R_249 S
                  obtain ⟨rfl, GR_249⟩ := RepV.int R_249
                  obtain ⟨y_250, ey_250, ej_246⟩ := bindS ej_246
                  refine w_go S rfl (op_indexAddr S rfl ty24 rfl rfl rfl R0 rfl ey_250 ?_)
                  clear S; intro a p_251 R_252 H_253 S
                  refine w_go S rfl (op_load (t := gt1) (x := y_250) S rfl ty32 rfl rfl rfl R_252 ?_)
                  clear S; intro a v_254 R_255 S
                  refine w_go S rfl (op_alloc (K := K) (n := w.heap.size) (L := [some b_24, some b_2]) (t := gt1) (y := (0, 0, false, false, false, false, 0)) S rfl rfl rfl _ z32 (fun w K => ⟨[.int .i64 0], [.int .u8 0, .bool false, .bool false, .bool false, .bool false, .int .i64 0], rfl, ⟨rfl, by decide⟩, ⟨[.int .u8 0], [.bool false, .bool false, .bool false, .bool false, .int .i64 0], rfl, ⟨rfl, by decide⟩, ⟨[.bool false], [.bool false, .bool false, .bool false, .int .i64 0], rfl, rfl, ⟨[.bool false], [.bool false, .bool false, .int .i64 0], rfl, rfl, ⟨[.bool false], [.bool false, .int .i64 0], rfl, rfl, ⟨[.bool false], [.int .i64 0], rfl, rfl, ⟨rfl, by decide⟩⟩⟩⟩⟩⟩⟩) ?_)
                  clear S; intro a w_258 b_256 hb_259 B_257 S
                  replace R0 := R0.box hb_259
                  replace R_255 := R_255.box hb_259
                  replace B_3 := B_3.box hb_259
                  replace B_25 := B_25.box hb_259
                  replace W := W.box hb_259
                  refine w_go S rfl (op_store (t' := gt1) S rfl rfl ty32 rfl rfl rfl B_257 (by simp) Ln.whole R_255 ?_)
                  intro w_260 hw_261 B_
                  replace R0 := R0.wrote hw_261 (by simp)
                  replace R_255 := R_255.wrote hw_261 (by simp)
                  replace B_3 := B_3.wrote hw_261 (by simp) (W.bne (p := 2) (q := 0) (by decide) rfl rfl)
                  replace B_25 := B_25.wrote hw_261 (by simp) (W.bne (p := 1) (q := 0) (by decide) rfl rfl)
                  replace W := W.wrote hw_261 (by simp)
                  replace B_257 : Bx gt1 32 w_260 (Kx K w.heap.size [some b_256, some b_24, some b_2]) b_256 y_250 := B_; clear B_
                  refine wpList_nil ?_
                  refine then_n ?_
                  replace S := S.sub (l' := [(7, pB b_256), (0, v0), (3, pB b_2), (4, .int .i64 c_6), (5, pB b_24)]) (by exact ⟨rfl, rfl, rfl, rfl, rfl, trivial⟩)
                  refine wp_seq ?_
                  refine wp_seq ?_
                  refine wp_region_lit ?_
                  refine wl_pure (l' := [(90, .pointer (some ((⟨b_256, 0, .none⟩ : Addr).add (coff gf1 2)))), (7, pB b_256), (0, v0), (3, pB b_2), (4, .int .i64 c_6), (5, pB b_24)]) S tys tys_ok 1 (by kernel_rfl) ?_
                  clear S; intro a S
                  refine w_go S rfl (op_load (t := .bool) (x := y_250.2.2.1) S rfl ty4 rfl rfl rfl (RepAt.add 2 (RepAt.st (t := gf1) B_257.at_)) ?_)
                  clear S; intro a v_262 R_263 S
                  obtain rfl := RepV.bool R_263
                  refine wl_pureK (l' := [(93, .bool (!y_250.2.2.1)), (7, pB b_256), (0, v0), (3, pB b_2), (4, .int .i64 c_6), (5, pB b_24)]) S tys tys_ok 2 [93, 7, 0, 3, 4, 5] (by kernel_rfl) ?_
                  clear S; intro a S
                  obtain ⟨q_264, eq_264, ej_246⟩ := bindS ej_246
                  refine seg 9 (fun a_ w_ => w_260 = w_ ∧ St 129 a_ [(102, .bool q_264), (7, pB b_256), (0, v0), (3, pB b_2), (4, .int .i64 c_6), (5, pB b_24)]) ?_ ?_
                  · by_cases hc : (!y_250.2.2.1) = false
                    · rw [if_pos hc] at eq_264; rw [hc] at S
                      refine wl_pure (l' := [(94, .pointer (some ((⟨b_256, 0, .none⟩ : Addr).add (coff gf1 3)))), (93, .bool false), (7, pB b_256), (0, v0), (3, pB b_2), (4, .int .i64 c_6), (5, pB b_24)]) S tys tys_ok 1 (by kernel_rfl) ?_
                      clear S; intro a S
                      refine w_go S rfl (op_load (t := .bool) (x := y_250.2.2.2.1) S rfl ty4 rfl rfl rfl (RepAt.add 3 (RepAt.st (t := gf1) B_257.at_)) ?_)
                      clear S; intro a v_265 R_266 S
                      obtain rfl := RepV.bool R_266
                      refine wl_pure (l' := [(97, .bool (!y_250.2.2.2.1)), (96, .bool (!y_250.2.2.2.1)), (95, .bool y_250.2.2.2.1), (94, .pointer (some ((⟨b_256, 0, .none⟩ : Addr).add (coff gf1 3)))), (93, .bool false), (7, pB b_256), (0, v0), (3, pB b_2), (4, .int .i64 c_6), (5, pB b_24)]) S tys tys_ok 2 (by kernel_rfl) ?_
                      clear S; intro a S
                      obtain ⟨q_267, eq_267, eq_264⟩ := bindS eq_264
                      refine seg 4 (fun a_ w_ => w_260 = w_ ∧ St 129 a_ [(101, .bool q_267), (97, .bool (!y_250.2.2.2.1)), (96, .bool (!y_250.2.2.2.1)), (95, .bool y_250.2.2.2.1), (94, .pointer (some ((⟨b_256, 0, .none⟩ : Addr).add (coff gf1 3)))), (93, .bool false), (7, pB b_256), (0, v0), (3, pB b_2), (4, .int .i64 c_6), (5, pB b_24)]) ?_ ?_
                      · by_cases hc : (!y_250.2.2.2.1) = true
                        · rw [if_pos hc] at eq_267; rw [hc] at S
                          refine wl_pure (l' := [(98, .pointer (some ((⟨b_24, 0, .none⟩ : Addr).add (coff gf1 1)))), (97, .bool true), (96, .bool true), (95, .bool y_250.2.2.2.1), (94, .pointer (some ((⟨b_256, 0, .none⟩ : Addr).add (coff gf1 3)))), (93, .bool false), (7, pB b_256), (0, v0), (3, pB b_2), (4, .int .i64 c_6), (5, pB b_24)]) S tys tys_ok 1 (by kernel_rfl) ?_
                          clear S; intro a S
                          refine w_go S rfl (op_load (t := (.int .u8)) (x := y_18.2.1) S rfl ty5 rfl rfl rfl (RepAt.add 1 (RepAt.st (t := gf1) B_25.at_)) ?_)
                          clear S; intro a v_268 R_269 S
                          obtain ⟨rfl, GR_269⟩ := RepV.int R_269
                          refine wl_pure (l' := [(101, .bool (decide (y_18.2.1 > 4))), (100, .bool (decide (y_18.2.1 > 4))), (99, .int .u8 y_18.2.1), (98, .pointer (some ((⟨b_24, 0, .none⟩ : Addr).add (coff gf1 1)))), (97, .bool true), (96, .bool true), (95, .bool y_250.2.2.2.1), (94, .pointer (some ((⟨b_256, 0, .none⟩ : Addr).add (coff gf1 3)))), (93, .bool false), (7, pB b_256), (0, v0), (3, pB b_2), (4, .int .i64 c_6), (5, pB b_24)]) S tys tys_ok 2 (by kernel_rfl) ?_
                          clear S; intro a S
                          obtain rfl := Option.some.inj eq_267
                          exact ⟨rfl, S.sub (by exact ⟨rfl, (by rw [show (!y_250.2.2.2.1) = true from hc]; rfl), (by rw [show (!y_250.2.2.2.1) = true from hc]; rfl), rfl, rfl, rfl, rfl, rfl, rfl, rfl, rfl, trivial⟩)⟩
                        · rw [if_neg hc] at eq_267; rw [show (!y_250.2.2.2.1) = false from Bool.eq_false_iff.2 hc] at S
                          refine wl_pure (l' := [(101, .bool false), (100, undef), (99, undef), (98, undef), (97, .bool false), (96, .bool false), (95, .bool y_250.2.2.2.1), (94, .pointer (some ((⟨b_256, 0, .none⟩ : Addr).add (coff gf1 3)))), (93, .bool false), (7, pB b_256), (0, v0), (3, pB b_2), (4, .int .i64 c_6), (5, pB b_24)]) S tys tys_ok 4 (by kernel_rfl) ?_
                          clear S; intro a S
                          obtain rfl := Option.some.inj eq_267
                          exact ⟨rfl, S.sub (by exact ⟨rfl, (by rw [show (!y_250.2.2.2.1) = false from Bool.eq_false_iff.2 hc]; rfl), (by rw [show (!y_250.2.2.2.1) = false from Bool.eq_false_iff.2 hc]; rfl), rfl, rfl, rfl, rfl, rfl, rfl, rfl, rfl, trivial⟩)⟩
                      clear S eq_267; rintro a _ ⟨rfl, S⟩
                      refine wl_pure (l' := [(102, .bool q_267), (101, .bool q_267), (97, .bool (!y_250.2.2.2.1)), (96, .bool (!y_250.2.2.2.1)), (95, .bool y_250.2.2.2.1), (94, .pointer (some ((⟨b_256, 0, .none⟩ : Addr).add (coff gf1 3)))), (93, .bool false), (7, pB b_256), (0, v0), (3, pB b_2), (4, .int .i64 c_6), (5, pB b_24)]) S tys tys_ok 1 (by kernel_rfl) ?_
                      clear S; intro a S
                      obtain rfl := Option.some.inj eq_264
                      exact ⟨rfl, S.sub (by exact ⟨rfl, rfl, rfl, rfl, rfl, rfl, trivial⟩)⟩
                    · rw [if_neg hc] at eq_264; rw [show (!y_250.2.2.1) = true from (by simpa using hc)] at S
                      refine wl_pure (l' := [(102, .bool true), (101, undef), (100, undef), (99, undef), (98, undef), (97, undef), (96, undef), (95, undef), (94, undef), (93, .bool true), (7, pB b_256), (0, v0), (3, pB b_2), (4, .int .i64 c_6), (5, pB b_24)]) S tys tys_ok 9 (by kernel_rfl) ?_
                      clear S; intro a S
                      obtain rfl := Option.some.inj eq_264
                      exact ⟨rfl, S.sub (by exact ⟨rfl, rfl, rfl, rfl, rfl, rfl, trivial⟩)⟩
                  clear S eq_264; rintro a _ ⟨rfl, S⟩
                  refine wl_pure (l' := [(103, .bool q_264), (102, .bool q_264), (7, pB b_256), (0, v0), (3, pB b_2), (4, .int .i64 c_6), (5, pB b_24)]) S tys tys_ok 1 (by kernel_rfl) ?_
                  clear S; intro a S
                  obtain ⟨q_270, eq_270, ej_246⟩ := bindS ej_246
                  refine seg 8 (fun a_ w_ => w_260 = w_ ∧ St 129 a_ [(111, .bool q_270), (0, v0), (3, pB b_2), (4, .int .i64 c_6), (5, pB b_24)]) ?_ ?_
                  · by_cases hc : q_264 = false
                    · rw [if_pos hc] at eq_270; rw [hc] at S
                      refine wl_pure (l' := [(104, .pointer (some ((⟨b_256, 0, .none⟩ : Addr).add (coff gf1 5)))), (103, .bool false), (102, .bool false), (7, pB b_256), (0, v0), (3, pB b_2), (4, .int .i64 c_6), (5, pB b_24)]) S tys tys_ok 1 (by kernel_rfl) ?_
                      clear S; intro a S
                      refine w_go S rfl (op_load (t := .bool) (x := y_250.2.2.2.2.2.1) S rfl ty4 rfl rfl rfl (RepAt.add 5 (RepAt.st (t := gf1) B_257.at_)) ?_)
                      clear S; intro a v_271 R_272 S
                      obtain rfl := RepV.bool R_272
                      refine wl_pure (l' := [(106, .bool y_250.2.2.2.2.2.1), (105, .bool y_250.2.2.2.2.2.1), (104, .pointer (some ((⟨b_256, 0, .none⟩ : Addr).add (coff gf1 5)))), (103, .bool false), (102, .bool false), (7, pB b_256), (0, v0), (3, pB b_2), (4, .int .i64 c_6), (5, pB b_24)]) S tys tys_ok 1 (by kernel_rfl) ?_
                      clear S; intro a S
                      obtain ⟨q_273, eq_273, eq_270⟩ := bindS eq_270
                      refine seg 4 (fun a_ w_ => w_260 = w_ ∧ St 129 a_ [(110, .bool q_273), (106, .bool y_250.2.2.2.2.2.1), (105, .bool y_250.2.2.2.2.2.1), (104, .pointer (some ((⟨b_256, 0, .none⟩ : Addr).add (coff gf1 5)))), (103, .bool false), (0, v0), (3, pB b_2), (4, .int .i64 c_6), (5, pB b_24)]) ?_ ?_
                      · by_cases hc : y_250.2.2.2.2.2.1 = true
                        · rw [if_pos hc] at eq_273; rw [hc] at S
                          refine wl_pure (l' := [(107, .pointer (some ((⟨b_24, 0, .none⟩ : Addr).add (coff gf1 5)))), (106, .bool true), (105, .bool true), (104, .pointer (some ((⟨b_256, 0, .none⟩ : Addr).add (coff gf1 5)))), (103, .bool false), (102, .bool false), (7, pB b_256), (0, v0), (3, pB b_2), (4, .int .i64 c_6), (5, pB b_24)]) S tys tys_ok 1 (by kernel_rfl) ?_
                          clear S; intro a S
                          refine w_go S rfl (op_load (t := .bool) (x := y_18.2.2.2.2.2.1) S rfl ty4 rfl rfl rfl (RepAt.add 5 (RepAt.st (t := gf1) B_25.at_)) ?_)
                          clear S; intro a v_274 R_275 S
                          obtain rfl := RepV.bool R_275
                          refine wl_pure (l' := [(110, .bool (!y_18.2.2.2.2.2.1)), (109, .bool (!y_18.2.2.2.2.2.1)), (108, .bool y_18.2.2.2.2.2.1), (107, .pointer (some ((⟨b_24, 0, .none⟩ : Addr).add (coff gf1 5)))), (106, .bool true), (105, .bool true), (104, .pointer (some ((⟨b_256, 0, .none⟩ : Addr).add (coff gf1 5)))), (103, .bool false), (102, .bool false), (7, pB b_256), (0, v0), (3, pB b_2), (4, .int .i64 c_6), (5, pB b_24)]) S tys tys_ok 2 (by kernel_rfl) ?_
                          clear S; intro a S
                          obtain rfl := Option.some.inj eq_273
                          exact ⟨rfl, S.sub (by exact ⟨rfl, (by rw [show y_250.2.2.2.2.2.1 = true from hc]; rfl), (by rw [show y_250.2.2.2.2.2.1 = true from hc]; rfl), rfl, rfl, rfl, rfl, rfl, rfl, trivial⟩)⟩
                        · rw [if_neg hc] at eq_273; rw [show y_250.2.2.2.2.2.1 = false from Bool.eq_false_iff.2 hc] at S
                          refine wl_pure (l' := [(110, .bool false), (109, undef), (108, undef), (107, undef), (106, .bool false), (105, .bool false), (104, .pointer (some ((⟨b_256, 0, .none⟩ : Addr).add (coff gf1 5)))), (103, .bool false), (102, .bool false), (7, pB b_256), (0, v0), (3, pB b_2), (4, .int .i64 c_6), (5, pB b_24)]) S tys tys_ok 4 (by kernel_rfl) ?_
                          clear S; intro a S
                          obtain rfl := Option.some.inj eq_273
                          exact ⟨rfl, S.sub (by exact ⟨rfl, (by rw [show y_250.2.2.2.2.2.1 = false from Bool.eq_false_iff.2 hc]; rfl), (by rw [show y_250.2.2.2.2.2.1 = false from Bool.eq_false_iff.2 hc]; rfl), rfl, rfl, rfl, rfl, rfl, rfl, trivial⟩)⟩
                      clear S eq_273; rintro a _ ⟨rfl, S⟩
                      refine wl_pure (l' := [(111, .bool q_273), (110, .bool q_273), (106, .bool y_250.2.2.2.2.2.1), (105, .bool y_250.2.2.2.2.2.1), (104, .pointer (some ((⟨b_256, 0, .none⟩ : Addr).add (coff gf1 5)))), (103, .bool false), (0, v0), (3, pB b_2), (4, .int .i64 c_6), (5, pB b_24)]) S tys tys_ok 1 (by kernel_rfl) ?_
                      clear S; intro a S
                      obtain rfl := Option.some.inj eq_270
                      exact ⟨rfl, S.sub (by exact ⟨rfl, rfl, rfl, rfl, rfl, trivial⟩)⟩
                    · rw [if_neg hc] at eq_270; rw [show q_264 = true from (by simpa using hc)] at S
                      refine wl_pureK (l' := [(111, .bool true), (110, undef), (109, undef), (108, undef), (107, undef), (106, undef), (105, undef), (104, undef), (0, v0), (3, pB b_2), (4, .int .i64 c_6), (5, pB b_24)]) S tys tys_ok 8 [111, 110, 109, 108, 107, 106, 105, 104, 0, 3, 4, 5] (by kernel_rfl) ?_
                      clear S; intro a S
                      obtain rfl := Option.some.inj eq_270
                      exact ⟨rfl, S.sub (by exact ⟨rfl, rfl, rfl, rfl, rfl, trivial⟩)⟩
                  clear S eq_270; rintro a _ ⟨rfl, S⟩
                  refine wpList_nil ?_
                  refine then_n ?_
                  refine wp_cond_split (S.eval (show ev _ _ = some (.bool q_270) from rfl)) ?_ ?_
                  · intro hc
                    rw [if_pos hc] at ej_246
                    refine wp_seq ?_
                    refine wp_region_lit ?_
                    refine wl_pureK (l' := [(2, .int .i64 1)]) S tys tys_ok 1 [2] (by kernel_rfl) ?_
                    clear S; intro a S
                    refine wpList_nil ?_
                    refine then_n ?_
                    refine wp_ret ?_
                    refine then_r ?_
                    refine then_r ?_
                    refine then_r ?_
                    refine blk_r ?_
                    refine then_r ?_
                    refine then_r ?_
                    refine blk_r ?_
                    refine then_r ?_
                    refine then_r ?_
                    obtain rfl := Option.some.inj ej_246
                    have hq_ := lr_inr2 hl_15; subst hq_
                    obtain rfl := lr_inr h
                    exact b_ret1 S rfl rfl ⟨_, rfl, (RepV.mkInt (by decide)), W.below⟩
                  · intro hc
                    rw [if_neg (Bool.eq_false_iff.1 hc)] at ej_246
                    refine wp_skip ?_
                    refine then_n ?_
                    replace S := S.sub (l' := [(0, v0), (3, pB b_2), (4, .int .i64 c_6), (5, pB b_24)]) (by exact ⟨rfl, rfl, rfl, rfl, trivial⟩)
                    refine wp_region_lit ?_
                    refine wl_pure (l' := [(113, .pointer (some ((⟨b_24, 0, .none⟩ : Addr).add (coff gf1 0)))), (112, .int .i64 c_6), (0, v0), (3, pB b_2), (4, .int .i64 c_6), (5, pB b_24)]) S tys tys_ok 2 (by kernel_rfl) ?_
                    clear S; intro a S
                    refine w_go S rfl (op_load (t := (.int .i64)) (x := y_18.1) S rfl ty3 rfl rfl rfl (RepAt.add 0 (RepAt.st (t := gf1) B_25.at_)) ?_)
                    clear S; intro a v_276 R_277 S
                    obtain ⟨rfl, GR_277⟩ := RepV.int R_277
                    obtain ⟨y_278, ey_278, ej_246⟩ := bindS ej_246
                    refine w_go S rfl (op_indexAddr_arr S rfl ty26 rfl rfl rfl B_3.at_ rfl ey_278 ?_)
                    clear S; intro a S
                    refine w_go S rfl (op_load (t := (.int .i64)) (x := y_278) S rfl ty3 rfl rfl rfl (RepAt.ix B_3.at_ ey_278) ?_)
                    clear S; intro a v_279 R_280 S
                    obtain ⟨rfl, GR_280⟩ := RepV.int R_280
                    obtain ⟨y_281, ey_281, ej_246⟩ := bindS ej_246
                    refine w_go S rfl (op_indexAddr_arr S rfl ty26 rfl rfl rfl B_3.at_ rfl ey_281 ?_)
                    clear S; intro a S
                    refine w_go S rfl (op_store (t' := (.int .i64)) S rfl rfl ty3 rfl (addr_add1 _ _) rfl B_3 (by simp) (Ln.arr (n := 128) (by have h_ := (idx_some ey_281).2.2; have l_ := (B_3.at_).arr_len; omega) 0) ((RepV.mkInt GR_280) : RepV (.int .i64) w_260 (Kx K w.heap.size [some b_256, some b_24, some b_2]) _ y_278) ?_)
                    intro w_282 hw_283 B_
                    replace R0 := R0.wrote hw_283 (by simp)
                    replace B_25 := B_25.wrote hw_283 (by simp) (W.bne (p := 1) (q := 2) (by decide) rfl rfl)
                    replace B_257 := B_257.wrote hw_283 (by simp) (W.bne (p := 0) (q := 2) (by decide) rfl rfl)
                    replace W := W.wrote hw_283 (by simp)
                    replace B_3 : Bx (.arr 128 (.int .i64)) 26 w_282 (Kx K w.heap.size [some b_256, some b_24, some b_2]) b_2 (c_8.set c_6.toNat y_278) := B_; clear B_
                    refine wpList_nil ?_
                    refine then_n ?_
                    obtain rfl := Option.some.inj ej_246
                    exact ⟨_, rfl, ⟨S.sub (by exact ⟨rfl, rfl, rfl, rfl, trivial⟩), (W.drop 1), (R0.drop 1), (B_3.drop 1), (B_25.drop 1)⟩⟩
                · intro hc
                  rw [if_neg (Bool.eq_false_iff.1 hc)] at ej_246
                  refine wp_skip ?_
                  refine then_n ?_
                  obtain rfl := Option.some.inj ej_246
                  exact ⟨_, rfl, ⟨S.sub (by exact ⟨rfl, rfl, rfl, rfl, trivial⟩), W, R0, B_3, B_25⟩⟩
              clear S W; rintro a w_284 ⟨s_247, rfl, S, W, R0, B_3, B_25⟩
              replace hl_15 := lr_inl hl_15; try dsimp only at hl_15
              refine then_n ?_
              refine wp_seq ?_
              refine wp_seq ?_
              refine wp_region_lit ?_
              refine wl_pure (l' := [(118, .pointer (some ((⟨b_24, 0, .none⟩ : Addr).add (coff gf1 2)))), (0, v0), (3, pB b_2), (4, .int .i64 c_6), (5, pB b_24)]) S tys tys_ok 1 (by kernel_rfl) ?_
              clear S; intro a S
              refine w_go S rfl (op_load (t := .bool) (x := y_18.2.2.1) S rfl ty4 rfl rfl rfl (RepAt.add 2 (RepAt.st (t := gf1) B_25.at_)) ?_)
              clear S; intro a v_285 R_286 S
              obtain rfl := RepV.bool R_286
              refine wpList_nil ?_
              refine then_n ?_
              replace S := S.sub (l' := [(119, .bool y_18.2.2.1), (0, v0), (3, pB b_2), (4, .int .i64 c_6)]) (by exact ⟨rfl, rfl, rfl, rfl, trivial⟩)
              obtain ⟨j_287, ej_287, hl_15⟩ := bindS hl_15
              refine wp_cut_ (fun a_ w_ => St 129 a_ [(0, v0), (3, pB b_2), (4, .int .i64 c_6)] ∧ Wd w w_ [some b_24, some b_2] ∧ RepV (.sl gt1) w_ (Kx K w.heap.size [some b_24, some b_2]) v0 x0 ∧ Bx (.arr 128 (.int .i64)) 26 w_ (Kx K w.heap.size [some b_24, some b_2]) b_2 j_287 ∧ Bx gt1 32 w_ (Kx K w.heap.size [some b_24, some b_2]) b_24 y_18) ?_ ?_
              · refine wp_cond_split (S.eval (show ev _ _ = some (.bool y_18.2.2.1) from rfl)) ?_ ?_
                · intro hc
                  rw [if_pos hc] at ej_287
                  refine wp_region_lit ?_
                  refine wl_pure (l' := [(120, .int .i64 c_6), (119, .bool y_18.2.2.1), (0, v0), (3, pB b_2), (4, .int .i64 c_6)]) S tys tys_ok 1 (by kernel_rfl) ?_
                  clear S; intro a S
                  obtain ⟨y_288, ey_288, ej_287⟩ := bindS ej_287
                  refine w_go S rfl (op_indexAddr_arr S rfl ty26 rfl rfl rfl B_3.at_ rfl ey_288 ?_)
                  clear S; intro a S
                  refine w_go S rfl (op_load (t := (.int .i64)) (x := y_288) S rfl ty3 rfl rfl rfl (RepAt.ix B_3.at_ ey_288) ?_)
                  clear S; intro a v_289 R_290 S
                  obtain ⟨rfl, GR_290⟩ := RepV.int R_290
                  obtain ⟨x_291, ex_291, ej_287⟩ := bindS ej_287
                  refine w_go S rfl (op_arith S .i64 (y_288 + 1) rfl (.inl rfl) rfl rfl rfl rfl ex_291 ?_)
                  clear S; intro a S
                  obtain ⟨y_292, ey_292, ej_287⟩ := bindS ej_287
                  refine w_go S rfl (op_indexAddr_arr S rfl ty26 rfl rfl rfl B_3.at_ rfl ey_292 ?_)
                  clear S; intro a S
                  refine w_go S rfl (op_store (t' := (.int .i64)) S rfl rfl ty3 rfl (addr_add1 _ _) rfl B_3 (by simp) (Ln.arr (n := 128) (by have h_ := (idx_some ey_292).2.2; have l_ := (B_3.at_).arr_len; omega) 0) ((RepV.mkInt (ckI_some ex_291).2.1) : RepV (.int .i64) w_284 (Kx K w.heap.size [some b_24, some b_2]) _ x_291) ?_)
                  intro w_293 hw_294 B_
                  replace R0 := R0.wrote hw_294 (by simp)
                  replace B_25 := B_25.wrote hw_294 (by simp) (W.bne (p := 0) (q := 1) (by decide) rfl rfl)
                  replace W := W.wrote hw_294 (by simp)
                  replace B_3 : Bx (.arr 128 (.int .i64)) 26 w_293 (Kx K w.heap.size [some b_24, some b_2]) b_2 (s_247.set c_6.toNat x_291) := B_; clear B_
                  refine wpList_nil ?_
                  refine then_n ?_
                  obtain rfl := Option.some.inj ej_287
                  exact ⟨S.sub (by exact ⟨rfl, rfl, rfl, trivial⟩), W, R0, B_3, B_25⟩
                · intro hc
                  rw [if_neg (Bool.eq_false_iff.1 hc)] at ej_287
                  refine wp_skip ?_
                  refine then_n ?_
                  obtain rfl := Option.some.inj ej_287
                  exact ⟨S.sub (by exact ⟨rfl, rfl, rfl, trivial⟩), W, R0, B_3, B_25⟩
              clear S W; rintro a w_295 ⟨S, W, R0, B_3, B_25⟩
              refine then_n ?_
              refine wp_seq ?_
              refine wp_region_lit ?_
              refine wl_pure (l' := [(125, .int .i64 c_6), (0, v0), (3, pB b_2), (4, .int .i64 c_6)]) S tys tys_ok 1 (by kernel_rfl) ?_
              clear S; intro a S
              obtain ⟨y_296, ey_296, hl_15⟩ := bindS hl_15
              refine w_go S rfl (op_indexAddr_arr S rfl ty26 rfl rfl rfl B_3.at_ rfl ey_296 ?_)
              clear S; intro a S
              refine w_go S rfl (op_load (t := (.int .i64)) (x := y_296) S rfl ty3 rfl rfl rfl (RepAt.ix B_3.at_ ey_296) ?_)
              clear S; intro a v_297 R_298 S
              obtain ⟨rfl, GR_298⟩ := RepV.int R_298
              refine wl_pureK (l' := [(128, .bool (decide (y_296 > 5))), (0, v0), (3, pB b_2), (4, .int .i64 c_6)]) S tys tys_ok 1 [128, 0, 3, 4] (by kernel_rfl) ?_
              clear S; intro a S
              refine wpList_nil ?_
              refine then_n ?_
              refine wp_cond_split (S.eval (show ev _ _ = some (.bool (decide (y_296 > 5))) from rfl)) ?_ ?_
              · intro hc
                rw [if_pos hc] at hl_15
                refine wp_seq ?_
                refine wp_region_lit ?_
                refine wl_pureK (l' := [(2, .int .i64 1)]) S tys tys_ok 1 [2] (by kernel_rfl) ?_
                clear S; intro a S
                refine wpList_nil ?_
                refine then_n ?_
                refine wp_ret ?_
                refine blk_r ?_
                refine then_r ?_
                refine then_r ?_
                refine blk_r ?_
                refine then_r ?_
                refine then_r ?_
                obtain rfl := Option.some.inj hl_15
                obtain rfl := lr_inr h
                exact b_ret1 S rfl rfl ⟨_, rfl, (RepV.mkInt (by decide)), W.below⟩
              · intro hc
                rw [if_neg (Bool.eq_false_iff.1 hc)] at hl_15
                refine wp_skip ?_
                refine blk_n ?_
                refine then_n ?_
                replace S := S.sub (l' := [(0, v0), (3, pB b_2), (4, .int .i64 c_6)]) (by exact ⟨rfl, rfl, rfl, trivial⟩)
                refine wp_region_lit ?_
                refine wl_pure (l' := [(15, .int .i64 c_6), (0, v0), (3, pB b_2), (4, .int .i64 c_6)]) S tys tys_ok 1 (by kernel_rfl) ?_
                clear S; intro a S
                obtain ⟨x_299, ex_299, hl_15⟩ := bindS hl_15
                refine w_go S rfl (op_arith S .i64 (c_6 + 1) rfl (.inl rfl) rfl rfl rfl rfl ex_299 ?_)
                clear S; intro a S
                refine wl_pure (l' := [(4, .int .i64 x_299), (16, .int .i64 x_299), (15, .int .i64 c_6), (0, v0), (3, pB b_2), (4, .int .i64 c_6)]) S tys tys_ok 1 (by kernel_rfl) ?_
                clear S; intro a S
                refine wpList_nil ?_
                refine then_n ?_
                exact ⟨x_299, j_287, ⟨S.sub (by exact ⟨rfl, rfl, rfl, trivial⟩), (W.drop 1), (ckI_some ex_299).2.1, (R0.drop 1), (B_3.drop 1), hl_15⟩⟩
          · intro hc
            rw [if_neg (Bool.eq_false_iff.1 hc)] at hl_15
            refine wp_exit ?_
            refine then_x ?_
            refine then_x ?_
            refine blk_hit ?_
            refine then_n ?_
            obtain rfl := Option.some.inj hl_15
            exact ⟨_, rfl, ⟨S.sub trivial, W, B_3⟩⟩
    clear S W; rintro a w_300 ⟨s_13, rfl, S, W, B_3⟩
    replace h := lr_inl h; try dsimp only at h
    refine then_n ?_
    refine wp_seq ?_
    refine wp_region_lit ?_
    refine wl_pure (l' := [(2, .int .i64 0)]) S tys tys_ok 1 (by kernel_rfl) ?_
    clear S; intro a S
    refine wpList_nil ?_
    refine then_n ?_
    refine wp_ret ?_
    obtain rfl := Option.some.inj h
    exact b_ret1 S rfl rfl ⟨_, rfl, (RepV.mkInt (by decide)), W.below⟩
theorem cb25 : callB Try.prog 25 = true := by kernel_rfl
def p7_l1 (n : Nat) (x1 : Int) : Nat → (Int) → (List (Int × Int × Bool × Bool × Bool × Bool × Int)) → Option ((List (Int × Int × Bool × Bool × Bool × Bool × Int)))
  | 0, _, _ => .none
  | m + 1, c_16, c_18 => (remI .i64 x1 140).bind fun x_32 => if (decide (c_16 < x_32)) then ((appI c_18 ([((-1), 8, false, false, false, false, 0)])).bind fun l_39 => (ckI .i64 (c_16 + 1)).bind fun x_44 => p7_l1 n x1 m x_44 l_39) else some c_18
def p7 (n : Nat) (x0 : Sl (Int × Int × Bool × Bool × Bool × Bool × Int)) (x1 : Int) : Option ((Bool)) :=
  if (decide ((lenI x0) > 20)) then ((p19 n).bind fun t_2 => some t_2) else (appI ([] : List (Int × Int × Bool × Bool × Bool × Bool × Int)) x0.xs).bind fun l_11 => (p7_l1 n x1 n 0 l_11).bind fun (y_26 : (List (Int × Int × Bool × Bool × Bool × Bool × Int))) => (p25 n (⟨y_26, .none⟩ : Sl (Int × Int × Bool × Bool × Bool × Bool × Int))).bind fun t_46 => (p17 n (⟨y_26, .none⟩ : Sl (Int × Int × Bool × Bool × Bool × Bool × Int))).bind fun t_51 => if (t_51 != t_46) then (some false) else (p14 n (⟨y_26, .none⟩ : Sl (Int × Int × Bool × Bool × Bool × Bool × Int))).bind fun t_57 => (p15 n (⟨y_26, .none⟩ : Sl (Int × Int × Bool × Bool × Bool × Bool × Int))).bind fun t_64 => (p16 n (⟨y_26, .none⟩ : Sl (Int × Int × Bool × Bool × Bool × Bool × Int))).bind fun t_71 => (p20 n (⟨y_26, .none⟩ : Sl (Int × Int × Bool × Bool × Bool × Bool × Int))).bind fun t_78 => (if (t_57.2 != t_46) = false then some (t_64.2 != t_46) else some true).bind fun q_85 => (if q_85 = false then some (t_71.2 != t_46) else some true).bind fun q_86 => (if q_86 = false then some (t_78.2 != t_46) else some true).bind fun q_87 => if q_87 then (some false) else if (t_46 == 0) then ((if ((lenI (⟨t_57.1.xs, t_57.1.cap⟩ : Sl (Int))) == (lenI (⟨y_26, .none⟩ : Sl (Int × Int × Bool × Bool × Bool × Bool × Int)))) = true then some ((lenI (⟨t_64.1.xs, t_64.1.cap⟩ : Sl (Int))) == (lenI (⟨y_26, .none⟩ : Sl (Int × Int × Bool × Bool × Bool × Bool × Int)))) else some false).bind fun q_90 => (if q_90 = true then (p19 n).bind fun t_94 => some t_94 else some false).bind fun q_93 => some q_93) else (p22 n (⟨y_26, .none⟩ : Sl (Int × Int × Bool × Bool × Bool × Bool × Int)) 0 0).bind fun t_100 => (p24 n (⟨y_26, .none⟩ : Sl (Int × Int × Bool × Bool × Bool × Bool × Int)) 0).bind fun t_107 => (if ((lenI (⟨t_57.1.xs, t_57.1.cap⟩ : Sl (Int))) == 0) = true then some ((lenI (⟨t_64.1.xs, t_64.1.cap⟩ : Sl (Int))) == 0) else some false).bind fun q_115 => (if q_115 = true then some ((lenI t_71.1) == 0) else some false).bind fun q_117 => (if q_117 = true then some ((lenI t_78.1) == 0) else some false).bind fun q_119 => (if q_119 = true then some (!t_100.1) else some false).bind fun q_121 => (if q_121 = true then some (t_107.1 == 0) else some false).bind fun q_122 => (if q_122 = true then some (t_100.2 == t_46) else some false).bind fun q_123 => (if q_123 = true then some (t_107.2 == t_46) else some false).bind fun q_124 => (if q_124 = true then (p19 n).bind fun t_126 => some t_126 else some false).bind fun q_125 => some q_125
set_option maxHeartbeats 4000000 in
set_option maxRecDepth 100000 in
/-- plugboard/plugboardlaw19.PowersCheck -/
theorem c7 (K : Nat → Prop) (n : Nat) (w : World) (x0 : Sl (Int × Int × Bool × Bool × Bool × Bool × Int)) (v0 : Value) (R0 : RepV (.sl gt1) w K v0 x0) (x1 : Int) (G1 : InR .u8 x1) {r : (Bool)} (h : p7 n x0 x1 = some r) :
    Calls Try.prog 7 #[v0, .int .u8 x1] w (Ret1 .bool w (Kx K w.heap.size []) r) := by
  refine enter (args := [v0, .int .u8 x1]) Try.func7 rfl 148 rfl rfl fun a S => ?_
  have W := Wd.start w
  replace R0 := R0.arg
  unfold p7 at h
  replace S : St 148 a [(0, v0), (1, .int .u8 x1)] := S
  refine wp_seq ?_
  refine wp_region_lit ?_
  refine wl_pure (l' := [(4, .bool false), (0, v0), (1, .int .u8 x1)]) S tys tys_ok 1 (by kernel_rfl) ?_
  clear S; intro a S
  refine wpList_nil ?_
  refine then_n ?_
  replace S := S.sub (l' := [(0, v0), (1, .int .u8 x1)]) (by exact ⟨rfl, rfl, trivial⟩)
  refine wp_seq ?_
  refine wp_seq ?_
  refine wp_region_lit ?_
  refine wl_pure (l' := [(20, v0), (0, v0), (1, .int .u8 x1)]) S tys tys_ok 1 (by kernel_rfl) ?_
  clear S; intro a S
  refine w_go S rfl (op_len (K := _) S rfl ty24 rfl rfl rfl R0 ?_)
  clear S; intro a G_1 S
  refine wl_pure (l' := [(22, .bool (decide ((lenI x0) > 20))), (21, .int .i64 (lenI x0)), (20, v0), (0, v0), (1, .int .u8 x1)]) S tys tys_ok 1 (by kernel_rfl) ?_
  clear S; intro a S
  refine wpList_nil ?_
  refine then_n ?_
  replace S := S.sub (l' := [(22, .bool (decide ((lenI x0) > 20))), (0, v0), (1, .int .u8 x1)]) (by exact ⟨rfl, rfl, rfl, trivial⟩)
  refine wp_cond_split (S.eval (show ev _ _ = some (.bool (decide ((lenI x0) > 20))) from rfl)) ?_ ?_
  · intro hc
    rw [if_pos hc] at h
    refine wp_seq ?_
    refine wp_region_lit ?_
    obtain ⟨t_2, et_2, h⟩ := bindS h
    refine w_go S rfl (op_call (vs := []) S rfl cb19 rfl rfl rfl (c19 (Kx K w.heap.size []) n w  et_2) ?_)
    rintro _ w_6 ⟨v_3, rfl, R_4, hb_5⟩; refine ⟨_, rfl, ?_⟩
    replace R_4 := RepV.back R_4 W
    clear S; intro a S
    replace R0 := R0.step hb_5
    replace W := W.step hb_5
    obtain rfl := RepV.bool R_4
    refine wl_pureK (l' := [(4, .bool t_2)]) S tys tys_ok 1 [4] (by kernel_rfl) ?_
    clear S; intro a S
    refine wpList_nil ?_
    refine then_n ?_
    refine wp_ret ?_
    refine then_r ?_
    obtain rfl := Option.some.inj h
    exact b_ret1 S rfl rfl ⟨_, rfl, RepV.mkBool, W.below⟩
  · intro hc
    rw [if_neg (Bool.eq_false_iff.1 hc)] at h
    refine wp_skip ?_
    refine then_n ?_
    replace S := S.sub (l' := [(0, v0), (1, .int .u8 x1)]) (by exact ⟨rfl, rfl, trivial⟩)
    refine wp_seq ?_
    refine wp_region_lit ?_
    refine w_go S rfl (op_row0 (K := K) (e := gt1) (E := 32) S W rfl ty24 un24 rfl rfl ?_)
    clear S; intro a w_8 b_7 hb_9 O_10 S
    replace R0 := R0.box hb_9
    replace W := W.box hb_9
    replace O_10 : Ow gt1 32 w_8 w.heap.size (Kx K w.heap.size [some b_7]) (.slice (some ⟨b_7, 0, .none⟩) 0 0) ([] : List (Int × Int × Bool × Bool × Bool × Bool × Int)) (some 0) := O_10
    refine wl_pure (l' := [(25, v0), (24, (.slice (some ⟨b_7, 0, .none⟩) 0 0)), (0, v0), (1, .int .u8 x1)]) S tys tys_ok 1 (by kernel_rfl) ?_
    clear S; intro a S
    obtain ⟨l_11, el_11, h⟩ := bindS h
    refine w_go S rfl (op_append S W (E := 32) 0 rfl ty24 un24 by24 rfl rfl rfl rfl O_10 rfl R0 el_11 ?_)
    clear S; intro a w_13 v_12 A_14 O_15 S
    replace R0 : RepV (.sl gt1) w_13 (Kx K w.heap.size [v_12.ownBlock]) v0 x0 := R0.apd A_14 (i := 0) rfl
    replace W : Wd w w_13 [v_12.ownBlock] := W.apd A_14 (i := 0) rfl
    replace O_15 : Ow gt1 32 w_13 w.heap.size (Kx K w.heap.size [v_12.ownBlock]) v_12 l_11 (capA (some 0) l_11.length) := O_15
    refine wl_pureK (l' := [(5, v_12), (1, .int .u8 x1)]) S tys tys_ok 1 [5, 1] (by kernel_rfl) ?_
    clear S; intro a S
    refine wpList_nil ?_
    refine then_n ?_
    refine wp_seq ?_
    refine wp_seq ?_
    refine wp_region_lit ?_
    refine wl_pure (l' := [(6, .int .i64 0), (5, v_12), (1, .int .u8 x1)]) S tys tys_ok 1 (by kernel_rfl) ?_
    clear S; intro a S
    refine wpList_nil ?_
    refine then_n ?_
    obtain ⟨y_26, ey_26, h⟩ := bindS h
    refine wp_cut_ (fun a_ w_ => ∃ (v_27 : Value), St 148 a_ [(5, v_27)] ∧ Wd w w_ [v_27.ownBlock] ∧ Ow gt1 32 w_ w.heap.size (Kx K w.heap.size [v_27.ownBlock]) v_27 y_26 .none) ?_ ?_
    · refine wp_block ?_
      refine wp_loop_n (fun m_ a_ w_ => ∃ (c_16 : Int) (c_18 : List (Int × Int × Bool × Bool × Bool × Bool × Int)) , ∃ (v_19 : Value), St 148 a_ [(6, .int .i64 c_16), (5, v_19), (1, .int .u8 x1)] ∧ Wd w w_ [v_19.ownBlock] ∧ InR .i64 c_16 ∧ Ow gt1 32 w_ w.heap.size (Kx K w.heap.size [v_19.ownBlock]) v_19 c_18 .none ∧ p7_l1 n x1 m_ c_16 c_18 = some y_26) n ?_ ?_
      · skip
        exact ⟨0, l_11, ⟨v_12, S.sub (by exact ⟨rfl, rfl, rfl, trivial⟩), W, (by decide), O_15.forget, ey_26⟩⟩
      · clear S W; rintro m_29 a w_31 ⟨c_16, c_18, v_19, S, W, G_17, O_20, hl_30⟩
        cases m_29 with
        | zero => exact absurd hl_30 (by simp [p7_l1])
        | succ m_29 =>
          refine ⟨m_29, rfl, ?_⟩
          rw [p7_l1] at hl_30
          refine wp_seq ?_
          refine wp_seq ?_
          refine wp_region_lit ?_
          refine wl_pure (l' := [(28, .int .u8 x1), (27, .int .i64 c_16), (6, .int .i64 c_16), (5, v_19), (1, .int .u8 x1)]) S tys tys_ok 2 (by kernel_rfl) ?_
          clear S; intro a S
          refine w_go S rfl (op_conv S .i64 .bool .bool rfl ty5 ty3 rfl rfl rfl (widen G1 (by decide)).1 ?_)
          clear S; intro a S
          obtain ⟨x_32, ex_32, hl_30⟩ := bindS hl_30
          refine w_go S rfl (op_rem S .i64 rfl rfl rfl rfl rfl ex_32 ?_)
          clear S; intro a S
          refine wl_pureK (l' := [(31, .bool (decide (c_16 < x_32))), (6, .int .i64 c_16), (5, v_19), (1, .int .u8 x1)]) S tys tys_ok 1 [31, 6, 5, 1] (by kernel_rfl) ?_
          clear S; intro a S
          refine wpList_nil ?_
          refine then_n ?_
          refine wp_cond_split (S.eval (show ev _ _ = some (.bool (decide (c_16 < x_32))) from rfl)) ?_ ?_
          · intro hc
            rw [if_pos hc] at hl_30
            refine wp_skip ?_
            refine then_n ?_
            replace S := S.sub (l' := [(6, .int .i64 c_16), (5, v_19), (1, .int .u8 x1)]) (by exact ⟨rfl, rfl, rfl, trivial⟩)
            refine wp_seq ?_
            refine wp_block ?_
            refine wp_region_lit ?_
            refine wl_pure (l' := [(34, v_19), (6, .int .i64 c_16), (5, v_19), (1, .int .u8 x1)]) S tys tys_ok 1 (by kernel_rfl) ?_
            clear S; intro a S
            refine w_go S rfl (op_build (K := (Kx K w.heap.size [v_19.ownBlock])) (f := gf1) (z0 := (0, 0, false, false, false, false, 0)) (x := ((-1), 8, false, false, false, false, 0)) (vs := [.int .i64 (-1), .int .u8 8]) S _ rfl ty32 z32 (fun w K => ⟨[.int .i64 0], [.int .u8 0, .bool false, .bool false, .bool false, .bool false, .int .i64 0], rfl, ⟨rfl, by decide⟩, ⟨[.int .u8 0], [.bool false, .bool false, .bool false, .bool false, .int .i64 0], rfl, ⟨rfl, by decide⟩, ⟨[.bool false], [.bool false, .bool false, .bool false, .int .i64 0], rfl, rfl, ⟨[.bool false], [.bool false, .bool false, .int .i64 0], rfl, rfl, ⟨[.bool false], [.bool false, .int .i64 0], rfl, rfl, ⟨[.bool false], [.int .i64 0], rfl, rfl, ⟨rfl, by decide⟩⟩⟩⟩⟩⟩⟩) rfl rfl rfl [(0, .int .i64 (-1)), (1, .int .u8 8)] rfl ⟨_, (RepV.mkInt (by decide)), rfl, rfl, ⟨_, (RepV.mkInt (by decide)), rfl, rfl, rfl⟩⟩ ?_)
            clear S; intro a v_33 R_34 S
            refine w_go S rfl (op_buildSlice (K := K) (e := gt1) (vs := [v_33]) (xs := [((-1), 8, false, false, false, false, 0)]) S W rfl ty24 rfl rfl (by kernel_rfl) rfl rfl rfl rfl rfl ⟨R_34, trivial⟩ ?_)
            clear S; intro a w_38 v_35 hb_37 R_36 S
            replace R_34 := R_34.step hb_37
            replace O_20 := O_20.step hb_37
            replace W := W.step hb_37
            obtain ⟨l_39, el_39, hl_30⟩ := bindS hl_30
            refine w_go S rfl (op_append S W (E := 32) 0 rfl ty24 un24 by24 rfl rfl rfl rfl O_20 rfl R_36 el_39 ?_)
            clear S; intro a w_41 v_40 A_42 O_43 S
            replace R_34 : RepV gt1 w_41 (Kx K w.heap.size [v_40.ownBlock]) v_33 ((-1), 8, false, false, false, false, 0) := R_34.apd A_42 (i := 0) rfl
            replace R_36 : RepV (.sl gt1) w_41 (Kx K w.heap.size [v_40.ownBlock]) v_35 (⟨[((-1), 8, false, false, false, false, 0)], some 1⟩ : Sl (Int × Int × Bool × Bool × Bool × Bool × Int)) := R_36.apd A_42 (i := 0) rfl
            replace W : Wd w w_41 [v_40.ownBlock] := W.apd A_42 (i := 0) rfl
            replace O_43 : Ow gt1 32 w_41 w.heap.size (Kx K w.heap.size [v_40.ownBlock]) v_40 l_39 (capA .none l_39.length) := O_43
            refine wl_pureK (l' := [(5, v_40), (6, .int .i64 c_16), (5, v_19), (1, .int .u8 x1)]) S tys tys_ok 1 [5, 6, 1] (by kernel_rfl) ?_
            clear S; intro a S
            refine wpList_nil ?_
            refine blk_n ?_
            refine then_n ?_
            refine wp_region_lit ?_
            refine wl_pure (l' := [(32, .int .i64 c_16), (5, v_40), (6, .int .i64 c_16), (5, v_19), (1, .int .u8 x1)]) S tys tys_ok 1 (by kernel_rfl) ?_
            clear S; intro a S
            obtain ⟨x_44, ex_44, hl_30⟩ := bindS hl_30
            refine w_go S rfl (op_arith S .i64 (c_16 + 1) rfl (.inl rfl) rfl rfl rfl rfl ex_44 ?_)
            clear S; intro a S
            refine wl_pure (l' := [(6, .int .i64 x_44), (33, .int .i64 x_44), (32, .int .i64 c_16), (5, v_40), (6, .int .i64 c_16), (5, v_19), (1, .int .u8 x1)]) S tys tys_ok 1 (by kernel_rfl) ?_
            clear S; intro a S
            refine wpList_nil ?_
            refine then_n ?_
            exact ⟨x_44, l_39, ⟨v_40, S.sub (by exact ⟨rfl, rfl, rfl, trivial⟩), W, (ckI_some ex_44).2.1, O_43.forget, hl_30⟩⟩
          · intro hc
            rw [if_neg (Bool.eq_false_iff.1 hc)] at hl_30
            refine wp_exit ?_
            refine then_x ?_
            refine then_x ?_
            refine blk_hit ?_
            refine then_n ?_
            obtain rfl := Option.some.inj hl_30
            exact ⟨v_19, S.sub (by exact ⟨rfl, trivial⟩), W, O_20⟩
    clear S W; rintro a w_45 ⟨v_27, S, W, O_28⟩
    refine then_n ?_
    refine wp_seq ?_
    refine wp_region_lit ?_
    refine wl_pure (l' := [(38, v_27), (5, v_27)]) S tys tys_ok 1 (by kernel_rfl) ?_
    clear S; intro a S
    obtain ⟨t_46, et_46, h⟩ := bindS h
    refine w_go S rfl (op_call (vs := [v_27]) S rfl cb25 rfl rfl rfl (c25 (Kx K w.heap.size []) n w_45 (⟨y_26, .none⟩ : Sl (Int × Int × Bool × Bool × Bool × Bool × Int)) _ (Ow.read O_28) et_46) ?_)
    rintro _ w_50 ⟨v_47, rfl, R_48, hb_49⟩; refine ⟨_, rfl, ?_⟩
    clear S; intro a S
    replace O_28 := O_28.step hb_49
    replace W := W.step hb_49
    obtain ⟨rfl, GR_48⟩ := RepV.int R_48
    refine wl_pure (l' := [(7, .int .i64 t_46), (39, .int .i64 t_46), (38, v_27), (5, v_27)]) S tys tys_ok 1 (by kernel_rfl) ?_
    clear S; intro a S
    refine wpList_nil ?_
    refine then_n ?_
    replace S := S.sub (l' := [(7, .int .i64 t_46), (5, v_27)]) (by exact ⟨rfl, rfl, trivial⟩)
    refine wp_seq ?_
    refine wp_seq ?_
    refine wp_region_lit ?_
    refine wl_pure (l' := [(40, v_27), (7, .int .i64 t_46), (5, v_27)]) S tys tys_ok 1 (by kernel_rfl) ?_
    clear S; intro a S
    obtain ⟨t_51, et_51, h⟩ := bindS h
    refine w_go S rfl (op_call (vs := [v_27]) S rfl cb17 rfl rfl rfl (c17 (Kx K w.heap.size []) n w_50 (⟨y_26, .none⟩ : Sl (Int × Int × Bool × Bool × Bool × Bool × Int)) _ (Ow.read O_28) et_51) ?_)
    rintro _ w_55 ⟨v_52, rfl, R_53, hb_54⟩; refine ⟨_, rfl, ?_⟩
    clear S; intro a S
    replace O_28 := O_28.step hb_54
    replace W := W.step hb_54
    obtain ⟨rfl, GR_53⟩ := RepV.int R_53
    refine wl_pureK (l' := [(43, .bool (t_51 != t_46)), (7, .int .i64 t_46), (5, v_27)]) S tys tys_ok 2 [43, 7, 5] (by kernel_rfl) ?_
    clear S; intro a S
    refine wpList_nil ?_
    refine then_n ?_
    refine wp_cond_split (S.eval (show ev _ _ = some (.bool (t_51 != t_46)) from rfl)) ?_ ?_
    · intro hc
      rw [if_pos hc] at h
      refine wp_seq ?_
      refine wp_region_lit ?_
      refine wl_pureK (l' := [(4, .bool false)]) S tys tys_ok 1 [4] (by kernel_rfl) ?_
      clear S; intro a S
      refine wpList_nil ?_
      refine then_n ?_
      refine wp_ret ?_
      refine then_r ?_
      obtain rfl := Option.some.inj h
      exact b_ret1 S rfl rfl ⟨_, rfl, RepV.mkBool, W.below⟩
    · intro hc
      rw [if_neg (Bool.eq_false_iff.1 hc)] at h
      refine wp_skip ?_
      refine then_n ?_
      replace S := S.sub (l' := [(7, .int .i64 t_46), (5, v_27)]) (by exact ⟨rfl, rfl, trivial⟩)
      refine wp_seq ?_
      refine wp_region_lit ?_
      refine wl_pure (l' := [(45, v_27), (7, .int .i64 t_46), (5, v_27)]) S tys tys_ok 1 (by kernel_rfl) ?_
      clear S; intro a S
      have R_56 : RepV (.sl gt1) w_55 (Kx K w.heap.size []) v_27 (⟨y_26, .none⟩ : Sl (Int × Int × Bool × Bool × Bool × Bool × Int)) := O_28.pubAt W 0 rfl
      replace W : Wd w w_55 [] := W.lessAt 0
      obtain ⟨t_57, et_57, h⟩ := bindS h
      refine w_go S rfl (op_call (vs := [v_27]) S rfl cb14 rfl rfl rfl (c14 (Kx K w.heap.size []) n w_55 (⟨y_26, .none⟩ : Sl (Int × Int × Bool × Bool × Bool × Bool × Int)) _ R_56 et_57) ?_)
      rintro _ w_63 ⟨v_58, v_59, rfl, R_60, R_61, hb_62⟩; refine ⟨_, rfl, ?_⟩
      have NO_ := newO_of R_60 (Nat.le_refl _) hb_62
      replace R_60 := Ow.backO R_60 W
      replace R_61 := RepV.backO R_61 W
      clear S; intro a S
      replace R_56 := R_56.newO NO_
      replace W := W.newO NO_
      clear NO_
      obtain ⟨rfl, GR_61⟩ := RepV.int R_61
      refine wl_pureK (l' := [(9, .int .i64 t_57.2), (8, v_58), (7, .int .i64 t_46), (5, v_27)]) S tys tys_ok 5 [9, 8, 7, 5] (by kernel_rfl) ?_
      clear S; intro a S
      refine wpList_nil ?_
      refine then_n ?_
      refine wp_seq ?_
      refine wp_region_lit ?_
      refine wl_pure (l' := [(50, v_27), (9, .int .i64 t_57.2), (8, v_58), (7, .int .i64 t_46), (5, v_27)]) S tys tys_ok 1 (by kernel_rfl) ?_
      clear S; intro a S
      obtain ⟨t_64, et_64, h⟩ := bindS h
      refine w_go S rfl (op_call (vs := [v_27]) S rfl cb15 rfl rfl rfl (c15 (Kx K w.heap.size [v_58.ownBlock]) n w_63 (⟨y_26, .none⟩ : Sl (Int × Int × Bool × Bool × Bool × Bool × Int)) _ R_56 et_64) ?_)
      rintro _ w_70 ⟨v_65, v_66, rfl, R_67, R_68, hb_69⟩; refine ⟨_, rfl, ?_⟩
      have NO_ := newO_of R_67 (Nat.le_refl _) hb_69
      replace R_67 := Ow.backO R_67 W
      replace R_68 := RepV.backO R_68 W
      clear S; intro a S
      replace R_56 := R_56.newO NO_
      replace R_60 := R_60.newO NO_
      replace W := W.newO NO_
      clear NO_
      obtain ⟨rfl, GR_68⟩ := RepV.int R_68
      refine wl_pureK (l' := [(11, .int .i64 t_64.2), (10, v_65), (9, .int .i64 t_57.2), (8, v_58), (7, .int .i64 t_46), (5, v_27)]) S tys tys_ok 5 [11, 10, 9, 8, 7, 5] (by kernel_rfl) ?_
      clear S; intro a S
      refine wpList_nil ?_
      refine then_n ?_
      refine wp_seq ?_
      refine wp_region_lit ?_
      refine wl_pure (l' := [(55, v_27), (11, .int .i64 t_64.2), (10, v_65), (9, .int .i64 t_57.2), (8, v_58), (7, .int .i64 t_46), (5, v_27)]) S tys tys_ok 1 (by kernel_rfl) ?_
      clear S; intro a S
      obtain ⟨t_71, et_71, h⟩ := bindS h
      refine w_go S rfl (op_call (vs := [v_27]) S rfl cb16 rfl rfl rfl (c16 (Kx K w.heap.size [v_65.ownBlock, v_58.ownBlock]) n w_70 (⟨y_26, .none⟩ : Sl (Int × Int × Bool × Bool × Bool × Bool × Int)) _ R_56 et_71) ?_)
      rintro _ w_77 ⟨v_72, v_73, rfl, R_74, R_75, hb_76⟩; refine ⟨_, rfl, ?_⟩
      replace R_74 := RepV.back R_74 W
      replace R_75 := RepV.back R_75 W
      clear S; intro a S
      replace R_56 := R_56.step hb_76
      replace R_60 := R_60.step hb_76
      replace R_67 := R_67.step hb_76
      replace W := W.step hb_76
      obtain ⟨rfl, GR_75⟩ := RepV.int R_75
      refine wl_pureK (l' := [(13, .int .i64 t_71.2), (12, v_72), (11, .int .i64 t_64.2), (10, v_65), (9, .int .i64 t_57.2), (8, v_58), (7, .int .i64 t_46), (5, v_27)]) S tys tys_ok 5 [13, 12, 11, 10, 9, 8, 7, 5] (by kernel_rfl) ?_
      clear S; intro a S
      refine wpList_nil ?_
      refine then_n ?_
      refine wp_seq ?_
      refine wp_region_lit ?_
      refine wl_pure (l' := [(60, v_27), (13, .int .i64 t_71.2), (12, v_72), (11, .int .i64 t_64.2), (10, v_65), (9, .int .i64 t_57.2), (8, v_58), (7, .int .i64 t_46), (5, v_27)]) S tys tys_ok 1 (by kernel_rfl) ?_
      clear S; intro a S
      obtain ⟨t_78, et_78, h⟩ := bindS h
      refine w_go S rfl (op_call (vs := [v_27]) S rfl cb20 rfl rfl rfl (c20 (Kx K w.heap.size [v_65.ownBlock, v_58.ownBlock]) n w_77 (⟨y_26, .none⟩ : Sl (Int × Int × Bool × Bool × Bool × Bool × Int)) _ R_56 et_78) ?_)
      rintro _ w_84 ⟨v_79, v_80, rfl, R_81, R_82, hb_83⟩; refine ⟨_, rfl, ?_⟩
      replace R_81 := RepV.back R_81 W
      replace R_82 := RepV.back R_82 W
      clear S; intro a S
      replace R_56 := R_56.step hb_83
      replace R_74 := R_74.step hb_83
      replace R_60 := R_60.step hb_83
      replace R_67 := R_67.step hb_83
      replace W := W.step hb_83
      obtain ⟨rfl, GR_82⟩ := RepV.int R_82
      refine wl_pureK (l' := [(15, .int .i64 t_78.2), (14, v_79), (13, .int .i64 t_71.2), (12, v_72), (11, .int .i64 t_64.2), (10, v_65), (9, .int .i64 t_57.2), (8, v_58), (7, .int .i64 t_46), (5, v_27)]) S tys tys_ok 5 [15, 14, 13, 12, 11, 10, 9, 8, 7, 5] (by kernel_rfl) ?_
      clear S; intro a S
      refine wpList_nil ?_
      refine then_n ?_
      refine wp_seq ?_
      refine wp_seq ?_
      refine wp_region_lit ?_
      refine wl_pureK (l' := [(67, .bool (t_57.2 != t_46)), (15, .int .i64 t_78.2), (14, v_79), (13, .int .i64 t_71.2), (12, v_72), (11, .int .i64 t_64.2), (10, v_65), (8, v_58), (7, .int .i64 t_46), (5, v_27)]) S tys tys_ok 4 [67, 15, 14, 13, 12, 11, 10, 8, 7, 5] (by kernel_rfl) ?_
      clear S; intro a S
      obtain ⟨q_85, eq_85, h⟩ := bindS h
      refine seg 4 (fun a_ w_ => w_84 = w_ ∧ St 148 a_ [(71, .bool q_85), (15, .int .i64 t_78.2), (14, v_79), (13, .int .i64 t_71.2), (12, v_72), (10, v_65), (8, v_58), (7, .int .i64 t_46), (5, v_27)]) ?_ ?_
      · by_cases hc : (t_57.2 != t_46) = false
        · rw [if_pos hc] at eq_85; rw [hc] at S
          refine wl_pureK (l' := [(71, .bool (t_64.2 != t_46)), (15, .int .i64 t_78.2), (14, v_79), (13, .int .i64 t_71.2), (12, v_72), (10, v_65), (8, v_58), (7, .int .i64 t_46), (5, v_27)]) S tys tys_ok 4 [71, 15, 14, 13, 12, 10, 8, 7, 5] (by kernel_rfl) ?_
          clear S; intro a S
          obtain rfl := Option.some.inj eq_85
          exact ⟨rfl, S.sub (by exact ⟨rfl, rfl, rfl, rfl, rfl, rfl, rfl, rfl, rfl, trivial⟩)⟩
        · rw [if_neg hc] at eq_85; rw [show (t_57.2 != t_46) = true from (by simpa using hc)] at S
          refine wl_pureK (l' := [(71, .bool true), (15, .int .i64 t_78.2), (14, v_79), (13, .int .i64 t_71.2), (12, v_72), (10, v_65), (8, v_58), (7, .int .i64 t_46), (5, v_27)]) S tys tys_ok 4 [71, 15, 14, 13, 12, 10, 8, 7, 5] (by kernel_rfl) ?_
          clear S; intro a S
          obtain rfl := Option.some.inj eq_85
          exact ⟨rfl, S.sub (by exact ⟨rfl, rfl, rfl, rfl, rfl, rfl, rfl, rfl, rfl, trivial⟩)⟩
      clear S eq_85; rintro a _ ⟨rfl, S⟩
      refine wl_pure (l' := [(72, .bool q_85), (71, .bool q_85), (15, .int .i64 t_78.2), (14, v_79), (13, .int .i64 t_71.2), (12, v_72), (10, v_65), (8, v_58), (7, .int .i64 t_46), (5, v_27)]) S tys tys_ok 1 (by kernel_rfl) ?_
      clear S; intro a S
      obtain ⟨q_86, eq_86, h⟩ := bindS h
      refine seg 4 (fun a_ w_ => w_84 = w_ ∧ St 148 a_ [(76, .bool q_86), (15, .int .i64 t_78.2), (14, v_79), (12, v_72), (10, v_65), (8, v_58), (7, .int .i64 t_46), (5, v_27)]) ?_ ?_
      · by_cases hc : q_85 = false
        · rw [if_pos hc] at eq_86; rw [hc] at S
          refine wl_pureK (l' := [(76, .bool (t_71.2 != t_46)), (15, .int .i64 t_78.2), (14, v_79), (12, v_72), (10, v_65), (8, v_58), (7, .int .i64 t_46), (5, v_27)]) S tys tys_ok 4 [76, 15, 14, 12, 10, 8, 7, 5] (by kernel_rfl) ?_
          clear S; intro a S
          obtain rfl := Option.some.inj eq_86
          exact ⟨rfl, S.sub (by exact ⟨rfl, rfl, rfl, rfl, rfl, rfl, rfl, rfl, trivial⟩)⟩
        · rw [if_neg hc] at eq_86; rw [show q_85 = true from (by simpa using hc)] at S
          refine wl_pureK (l' := [(76, .bool true), (15, .int .i64 t_78.2), (14, v_79), (12, v_72), (10, v_65), (8, v_58), (7, .int .i64 t_46), (5, v_27)]) S tys tys_ok 4 [76, 15, 14, 12, 10, 8, 7, 5] (by kernel_rfl) ?_
          clear S; intro a S
          obtain rfl := Option.some.inj eq_86
          exact ⟨rfl, S.sub (by exact ⟨rfl, rfl, rfl, rfl, rfl, rfl, rfl, rfl, trivial⟩)⟩
      clear S eq_86; rintro a _ ⟨rfl, S⟩
      refine wl_pure (l' := [(77, .bool q_86), (76, .bool q_86), (15, .int .i64 t_78.2), (14, v_79), (12, v_72), (10, v_65), (8, v_58), (7, .int .i64 t_46), (5, v_27)]) S tys tys_ok 1 (by kernel_rfl) ?_
      clear S; intro a S
      obtain ⟨q_87, eq_87, h⟩ := bindS h
      refine seg 4 (fun a_ w_ => w_84 = w_ ∧ St 148 a_ [(81, .bool q_87), (14, v_79), (12, v_72), (10, v_65), (8, v_58), (7, .int .i64 t_46), (5, v_27)]) ?_ ?_
      · by_cases hc : q_86 = false
        · rw [if_pos hc] at eq_87; rw [hc] at S
          refine wl_pureK (l' := [(81, .bool (t_78.2 != t_46)), (14, v_79), (12, v_72), (10, v_65), (8, v_58), (7, .int .i64 t_46), (5, v_27)]) S tys tys_ok 4 [81, 14, 12, 10, 8, 7, 5] (by kernel_rfl) ?_
          clear S; intro a S
          obtain rfl := Option.some.inj eq_87
          exact ⟨rfl, S.sub (by exact ⟨rfl, rfl, rfl, rfl, rfl, rfl, rfl, trivial⟩)⟩
        · rw [if_neg hc] at eq_87; rw [show q_86 = true from (by simpa using hc)] at S
          refine wl_pureK (l' := [(81, .bool true), (14, v_79), (12, v_72), (10, v_65), (8, v_58), (7, .int .i64 t_46), (5, v_27)]) S tys tys_ok 4 [81, 14, 12, 10, 8, 7, 5] (by kernel_rfl) ?_
          clear S; intro a S
          obtain rfl := Option.some.inj eq_87
          exact ⟨rfl, S.sub (by exact ⟨rfl, rfl, rfl, rfl, rfl, rfl, rfl, trivial⟩)⟩
      clear S eq_87; rintro a _ ⟨rfl, S⟩
      refine wpList_nil ?_
      refine then_n ?_
      refine wp_cond_split (S.eval (show ev _ _ = some (.bool q_87) from rfl)) ?_ ?_
      · intro hc
        rw [if_pos hc] at h
        refine wp_seq ?_
        refine wp_region_lit ?_
        refine wl_pureK (l' := [(4, .bool false)]) S tys tys_ok 1 [4] (by kernel_rfl) ?_
        clear S; intro a S
        refine wpList_nil ?_
        refine then_n ?_
        refine wp_ret ?_
        refine then_r ?_
        obtain rfl := Option.some.inj h
        exact b_ret1 S rfl rfl ⟨_, rfl, RepV.mkBool, W.below⟩
      · intro hc
        rw [if_neg (Bool.eq_false_iff.1 hc)] at h
        refine wp_skip ?_
        refine then_n ?_
        replace S := S.sub (l' := [(14, v_79), (12, v_72), (10, v_65), (8, v_58), (7, .int .i64 t_46), (5, v_27)]) (by exact ⟨rfl, rfl, rfl, rfl, rfl, rfl, trivial⟩)
        refine wp_seq ?_
        refine wp_seq ?_
        refine wp_region_lit ?_
        refine wl_pure (l' := [(83, .bool (t_46 == 0)), (82, .int .i64 t_46), (14, v_79), (12, v_72), (10, v_65), (8, v_58), (7, .int .i64 t_46), (5, v_27)]) S tys tys_ok 2 (by kernel_rfl) ?_
        clear S; intro a S
        refine wpList_nil ?_
        refine then_n ?_
        replace S := S.sub (l' := [(83, .bool (t_46 == 0)), (14, v_79), (12, v_72), (10, v_65), (8, v_58), (7, .int .i64 t_46), (5, v_27)]) (by exact ⟨rfl, rfl, rfl, rfl, rfl, rfl, rfl, trivial⟩)
        refine wp_cond_split (S.eval (show ev _ _ = some (.bool (t_46 == 0)) from rfl)) ?_ ?_
        · intro hc
          rw [if_pos hc] at h
          refine wp_seq ?_
          refine wp_region_lit ?_
          refine wl_pureK (l' := [(84, v_58), (10, v_65), (5, v_27)]) S tys tys_ok 1 [84, 10, 5] (by kernel_rfl) ?_
          clear S; intro a S
          refine w_go S rfl (op_len (K := _) S rfl ty27 rfl rfl rfl R_60.read ?_)
          clear S; intro a G_88 S
          refine wl_pure (l' := [(86, v_27), (85, .int .i64 (lenI (⟨t_57.1.xs, t_57.1.cap⟩ : Sl (Int)))), (84, v_58), (10, v_65), (5, v_27)]) S tys tys_ok 1 (by kernel_rfl) ?_
          clear S; intro a S
          refine w_go S rfl (op_len (K := _) S rfl ty24 rfl rfl rfl R_56 ?_)
          clear S; intro a G_89 S
          refine wl_pureK (l' := [(89, .bool ((lenI (⟨t_57.1.xs, t_57.1.cap⟩ : Sl (Int))) == (lenI (⟨y_26, .none⟩ : Sl (Int × Int × Bool × Bool × Bool × Bool × Int))))), (10, v_65), (5, v_27)]) S tys tys_ok 2 [89, 10, 5] (by kernel_rfl) ?_
          clear S; intro a S
          obtain ⟨q_90, eq_90, h⟩ := bindS h
          refine seg 6 (fun a_ w_ => w_84 = w_ ∧ St 148 a_ [(95, .bool q_90)]) ?_ ?_
          · by_cases hc : ((lenI (⟨t_57.1.xs, t_57.1.cap⟩ : Sl (Int))) == (lenI (⟨y_26, .none⟩ : Sl (Int × Int × Bool × Bool × Bool × Bool × Int)))) = true
            · rw [if_pos hc] at eq_90; rw [hc] at S
              refine wl_pure (l' := [(90, v_65), (89, .bool true), (10, v_65), (5, v_27)]) S tys tys_ok 1 (by kernel_rfl) ?_
              clear S; intro a S
              refine w_go S rfl (op_len (K := _) S rfl ty27 rfl rfl rfl R_67.read ?_)
              clear S; intro a G_91 S
              refine wl_pureK (l' := [(92, v_27), (91, .int .i64 (lenI (⟨t_64.1.xs, t_64.1.cap⟩ : Sl (Int)))), (89, .bool true)]) S tys tys_ok 1 [92, 91, 89] (by kernel_rfl) ?_
              clear S; intro a S
              refine w_go S rfl (op_len (K := _) S rfl ty24 rfl rfl rfl R_56 ?_)
              clear S; intro a G_92 S
              refine wl_pureK (l' := [(95, .bool ((lenI (⟨t_64.1.xs, t_64.1.cap⟩ : Sl (Int))) == (lenI (⟨y_26, .none⟩ : Sl (Int × Int × Bool × Bool × Bool × Bool × Int)))))]) S tys tys_ok 2 [95] (by kernel_rfl) ?_
              clear S; intro a S
              obtain rfl := Option.some.inj eq_90
              exact ⟨rfl, S.sub (by exact ⟨rfl, trivial⟩)⟩
            · rw [if_neg hc] at eq_90; rw [show ((lenI (⟨t_57.1.xs, t_57.1.cap⟩ : Sl (Int))) == (lenI (⟨y_26, .none⟩ : Sl (Int × Int × Bool × Bool × Bool × Bool × Int)))) = false from Bool.eq_false_iff.2 hc] at S
              refine wl_pureK (l' := [(95, .bool false)]) S tys tys_ok 6 [95] (by kernel_rfl) ?_
              clear S; intro a S
              obtain rfl := Option.some.inj eq_90
              exact ⟨rfl, S.sub (by exact ⟨rfl, trivial⟩)⟩
          clear S eq_90; rintro a _ ⟨rfl, S⟩
          refine wl_pure (l' := [(96, .bool q_90), (95, .bool q_90)]) S tys tys_ok 1 (by kernel_rfl) ?_
          clear S; intro a S
          obtain ⟨q_93, eq_93, h⟩ := bindS h
          refine seg 2 (fun a_ w_ => St 148 a_ [(98, .bool q_93)] ∧ Wd w w_ [v_65.ownBlock, v_58.ownBlock]) ?_ ?_
          · by_cases hc : q_90 = true
            · rw [if_pos hc] at eq_93; rw [hc] at S
              obtain ⟨t_94, et_94, eq_93⟩ := bindS eq_93
              refine w_go S rfl (op_call (vs := []) S rfl cb19 rfl rfl rfl (c19 (Kx K w.heap.size [v_65.ownBlock, v_58.ownBlock]) n w_84  et_94) ?_)
              rintro _ w_98 ⟨v_95, rfl, R_96, hb_97⟩; refine ⟨_, rfl, ?_⟩
              replace R_96 := RepV.back R_96 W
              clear S; intro a S
              replace W := W.step hb_97
              obtain rfl := RepV.bool R_96
              refine wl_pureK (l' := [(98, .bool t_94)]) S tys tys_ok 1 [98] (by kernel_rfl) ?_
              clear S; intro a S
              obtain rfl := Option.some.inj eq_93
              exact ⟨S.sub (by exact ⟨rfl, trivial⟩), W⟩
            · rw [if_neg hc] at eq_93; rw [show q_90 = false from Bool.eq_false_iff.2 hc] at S
              refine wl_pureK (l' := [(98, .bool false)]) S tys tys_ok 2 [98] (by kernel_rfl) ?_
              clear S; intro a S
              obtain rfl := Option.some.inj eq_93
              exact ⟨S.sub (by exact ⟨rfl, trivial⟩), W⟩
          clear S W eq_93; rintro a w_99 ⟨S, W⟩
          refine wl_pure (l' := [(4, .bool q_93), (98, .bool q_93)]) S tys tys_ok 1 (by kernel_rfl) ?_
          clear S; intro a S
          refine wpList_nil ?_
          refine then_n ?_
          replace S := S.sub (l' := [(4, .bool q_93)]) (by exact ⟨rfl, trivial⟩)
          refine wp_ret ?_
          refine then_r ?_
          obtain rfl := Option.some.inj h
          exact b_ret1 S rfl rfl ⟨_, rfl, RepV.mkBool, W.below⟩
        · intro hc
          rw [if_neg (Bool.eq_false_iff.1 hc)] at h
          refine wp_skip ?_
          refine then_n ?_
          replace S := S.sub (l' := [(14, v_79), (12, v_72), (10, v_65), (8, v_58), (7, .int .i64 t_46), (5, v_27)]) (by exact ⟨rfl, rfl, rfl, rfl, rfl, rfl, trivial⟩)
          refine wp_seq ?_
          refine wp_region_lit ?_
          refine wl_pure (l' := [(100, v_27), (14, v_79), (12, v_72), (10, v_65), (8, v_58), (7, .int .i64 t_46), (5, v_27)]) S tys tys_ok 1 (by kernel_rfl) ?_
          clear S; intro a S
          obtain ⟨t_100, et_100, h⟩ := bindS h
          refine w_go S rfl (op_call (vs := [v_27, .int .i64 0, .int .i64 0]) S rfl cb22 rfl rfl rfl (c22 (Kx K w.heap.size [v_65.ownBlock, v_58.ownBlock]) n w_84 (⟨y_26, .none⟩ : Sl (Int × Int × Bool × Bool × Bool × Bool × Int)) _ R_56 0 (by decide) 0 (by decide) et_100) ?_)
          rintro _ w_106 ⟨v_101, v_102, rfl, R_103, R_104, hb_105⟩; refine ⟨_, rfl, ?_⟩
          replace R_103 := RepV.back R_103 W
          replace R_104 := RepV.back R_104 W
          clear S; intro a S
          replace R_81 := R_81.step hb_105
          replace R_74 := R_74.step hb_105
          replace R_56 := R_56.step hb_105
          replace R_67 := R_67.step hb_105
          replace R_60 := R_60.step hb_105
          replace W := W.step hb_105
          obtain rfl := RepV.bool R_103
          obtain ⟨rfl, GR_104⟩ := RepV.int R_104
          refine wl_pureK (l' := [(17, .int .i64 t_100.2), (16, .bool t_100.1), (14, v_79), (12, v_72), (10, v_65), (8, v_58), (7, .int .i64 t_46), (5, v_27)]) S tys tys_ok 5 [17, 16, 14, 12, 10, 8, 7, 5] (by kernel_rfl) ?_
          clear S; intro a S
          refine wpList_nil ?_
          refine then_n ?_
          refine wp_seq ?_
          refine wp_region_lit ?_
          refine wl_pure (l' := [(105, v_27), (17, .int .i64 t_100.2), (16, .bool t_100.1), (14, v_79), (12, v_72), (10, v_65), (8, v_58), (7, .int .i64 t_46), (5, v_27)]) S tys tys_ok 1 (by kernel_rfl) ?_
          clear S; intro a S
          obtain ⟨t_107, et_107, h⟩ := bindS h
          refine w_go S rfl (op_call (vs := [v_27, .int .i64 0]) S rfl cb24 rfl rfl rfl (c24 (Kx K w.heap.size [v_65.ownBlock, v_58.ownBlock]) n w_106 (⟨y_26, .none⟩ : Sl (Int × Int × Bool × Bool × Bool × Bool × Int)) _ R_56 0 (by decide) et_107) ?_)
          rintro _ w_113 ⟨v_108, v_109, rfl, R_110, R_111, hb_112⟩; refine ⟨_, rfl, ?_⟩
          replace R_110 := RepV.back R_110 W
          replace R_111 := RepV.back R_111 W
          clear S; intro a S
          replace R_81 := R_81.step hb_112
          replace R_74 := R_74.step hb_112
          replace R_56 := R_56.step hb_112
          replace R_67 := R_67.step hb_112
          replace R_60 := R_60.step hb_112
          replace W := W.step hb_112
          obtain ⟨rfl, GR_110⟩ := RepV.int R_110
          obtain ⟨rfl, GR_111⟩ := RepV.int R_111
          refine wl_pureK (l' := [(19, .int .i64 t_107.2), (18, .int .i64 t_107.1), (17, .int .i64 t_100.2), (16, .bool t_100.1), (14, v_79), (12, v_72), (10, v_65), (8, v_58), (7, .int .i64 t_46)]) S tys tys_ok 5 [19, 18, 17, 16, 14, 12, 10, 8, 7] (by kernel_rfl) ?_
          clear S; intro a S
          refine wpList_nil ?_
          refine then_n ?_
          refine wp_seq ?_
          refine wp_region_lit ?_
          refine wl_pure (l' := [(109, v_58), (19, .int .i64 t_107.2), (18, .int .i64 t_107.1), (17, .int .i64 t_100.2), (16, .bool t_100.1), (14, v_79), (12, v_72), (10, v_65), (8, v_58), (7, .int .i64 t_46)]) S tys tys_ok 1 (by kernel_rfl) ?_
          clear S; intro a S
          refine w_go S rfl (op_len (K := _) S rfl ty27 rfl rfl rfl R_60.read ?_)
          clear S; intro a G_114 S
          refine wl_pureK (l' := [(112, .bool ((lenI (⟨t_57.1.xs, t_57.1.cap⟩ : Sl (Int))) == 0)), (19, .int .i64 t_107.2), (18, .int .i64 t_107.1), (17, .int .i64 t_100.2), (16, .bool t_100.1), (14, v_79), (12, v_72), (10, v_65), (7, .int .i64 t_46)]) S tys tys_ok 2 [112, 19, 18, 17, 16, 14, 12, 10, 7] (by kernel_rfl) ?_
          clear S; intro a S
          obtain ⟨q_115, eq_115, h⟩ := bindS h
          refine seg 4 (fun a_ w_ => w_113 = w_ ∧ St 148 a_ [(116, .bool q_115), (19, .int .i64 t_107.2), (18, .int .i64 t_107.1), (17, .int .i64 t_100.2), (16, .bool t_100.1), (14, v_79), (12, v_72), (7, .int .i64 t_46)]) ?_ ?_
          · by_cases hc : ((lenI (⟨t_57.1.xs, t_57.1.cap⟩ : Sl (Int))) == 0) = true
            · rw [if_pos hc] at eq_115; rw [hc] at S
              refine wl_pure (l' := [(113, v_65), (112, .bool true), (19, .int .i64 t_107.2), (18, .int .i64 t_107.1), (17, .int .i64 t_100.2), (16, .bool t_100.1), (14, v_79), (12, v_72), (10, v_65), (7, .int .i64 t_46)]) S tys tys_ok 1 (by kernel_rfl) ?_
              clear S; intro a S
              refine w_go S rfl (op_len (K := _) S rfl ty27 rfl rfl rfl R_67.read ?_)
              clear S; intro a G_116 S
              refine wl_pureK (l' := [(116, .bool ((lenI (⟨t_64.1.xs, t_64.1.cap⟩ : Sl (Int))) == 0)), (19, .int .i64 t_107.2), (18, .int .i64 t_107.1), (17, .int .i64 t_100.2), (16, .bool t_100.1), (14, v_79), (12, v_72), (7, .int .i64 t_46)]) S tys tys_ok 2 [116, 19, 18, 17, 16, 14, 12, 7] (by kernel_rfl) ?_
              clear S; intro a S
              obtain rfl := Option.some.inj eq_115
              exact ⟨rfl, S.sub (by exact ⟨rfl, rfl, rfl, rfl, rfl, rfl, rfl, rfl, trivial⟩)⟩
            · rw [if_neg hc] at eq_115; rw [show ((lenI (⟨t_57.1.xs, t_57.1.cap⟩ : Sl (Int))) == 0) = false from Bool.eq_false_iff.2 hc] at S
              refine wl_pureK (l' := [(116, .bool false), (19, .int .i64 t_107.2), (18, .int .i64 t_107.1), (17, .int .i64 t_100.2), (16, .bool t_100.1), (14, v_79), (12, v_72), (7, .int .i64 t_46)]) S tys tys_ok 4 [116, 19, 18, 17, 16, 14, 12, 7] (by kernel_rfl) ?_
              clear S; intro a S
              obtain rfl := Option.some.inj eq_115
              exact ⟨rfl, S.sub (by exact ⟨rfl, rfl, rfl, rfl, rfl, rfl, rfl, rfl, trivial⟩)⟩
          clear S eq_115; rintro a _ ⟨rfl, S⟩
          refine wl_pure (l' := [(117, .bool q_115), (116, .bool q_115), (19, .int .i64 t_107.2), (18, .int .i64 t_107.1), (17, .int .i64 t_100.2), (16, .bool t_100.1), (14, v_79), (12, v_72), (7, .int .i64 t_46)]) S tys tys_ok 1 (by kernel_rfl) ?_
          clear S; intro a S
          obtain ⟨q_117, eq_117, h⟩ := bindS h
          refine seg 4 (fun a_ w_ => w_113 = w_ ∧ St 148 a_ [(121, .bool q_117), (19, .int .i64 t_107.2), (18, .int .i64 t_107.1), (17, .int .i64 t_100.2), (16, .bool t_100.1), (14, v_79), (7, .int .i64 t_46)]) ?_ ?_
          · by_cases hc : q_115 = true
            · rw [if_pos hc] at eq_117; rw [hc] at S
              refine wl_pure (l' := [(118, v_72), (117, .bool true), (116, .bool true), (19, .int .i64 t_107.2), (18, .int .i64 t_107.1), (17, .int .i64 t_100.2), (16, .bool t_100.1), (14, v_79), (12, v_72), (7, .int .i64 t_46)]) S tys tys_ok 1 (by kernel_rfl) ?_
              clear S; intro a S
              refine w_go S rfl (op_len (K := _) S rfl ty27 rfl rfl rfl R_74 ?_)
              clear S; intro a G_118 S
              refine wl_pureK (l' := [(121, .bool ((lenI t_71.1) == 0)), (19, .int .i64 t_107.2), (18, .int .i64 t_107.1), (17, .int .i64 t_100.2), (16, .bool t_100.1), (14, v_79), (7, .int .i64 t_46)]) S tys tys_ok 2 [121, 19, 18, 17, 16, 14, 7] (by kernel_rfl) ?_
              clear S; intro a S
              obtain rfl := Option.some.inj eq_117
              exact ⟨rfl, S.sub (by exact ⟨rfl, rfl, rfl, rfl, rfl, rfl, rfl, trivial⟩)⟩
            · rw [if_neg hc] at eq_117; rw [show q_115 = false from Bool.eq_false_iff.2 hc] at S
              refine wl_pureK (l' := [(121, .bool false), (19, .int .i64 t_107.2), (18, .int .i64 t_107.1), (17, .int .i64 t_100.2), (16, .bool t_100.1), (14, v_79), (7, .int .i64 t_46)]) S tys tys_ok 4 [121, 19, 18, 17, 16, 14, 7] (by kernel_rfl) ?_
              clear S; intro a S
              obtain rfl := Option.some.inj eq_117
              exact ⟨rfl, S.sub (by exact ⟨rfl, rfl, rfl, rfl, rfl, rfl, rfl, trivial⟩)⟩
          clear S eq_117; rintro a _ ⟨rfl, S⟩
          refine wl_pure (l' := [(122, .bool q_117), (121, .bool q_117), (19, .int .i64 t_107.2), (18, .int .i64 t_107.1), (17, .int .i64 t_100.2), (16, .bool t_100.1), (14, v_79), (7, .int .i64 t_46)]) S tys tys_ok 1 (by kernel_rfl) ?_
          clear S; intro a S
          obtain ⟨q_119, eq_119, h⟩ := bindS h
          refine seg 4 (fun a_ w_ => w_113 = w_ ∧ St 148 a_ [(126, .bool q_119), (19, .int .i64 t_107.2), (18, .int .i64 t_107.1), (17, .int .i64 t_100.2), (16, .bool t_100.1), (7, .int .i64 t_46)]) ?_ ?_
          · by_cases hc : q_117 = true
            · rw [if_pos hc] at eq_119; rw [hc] at S
              refine wl_pure (l' := [(123, v_79), (122, .bool true), (121, .bool true), (19, .int .i64 t_107.2), (18, .int .i64 t_107.1), (17, .int .i64 t_100.2), (16, .bool t_100.1), (14, v_79), (7, .int .i64 t_46)]) S tys tys_ok 1 (by kernel_rfl) ?_
              clear S; intro a S
              refine w_go S rfl (op_len (K := _) S rfl ty27 rfl rfl rfl R_81 ?_)
              clear S; intro a G_120 S
              refine wl_pureK (l' := [(126, .bool ((lenI t_78.1) == 0)), (19, .int .i64 t_107.2), (18, .int .i64 t_107.1), (17, .int .i64 t_100.2), (16, .bool t_100.1), (7, .int .i64 t_46)]) S tys tys_ok 2 [126, 19, 18, 17, 16, 7] (by kernel_rfl) ?_
              clear S; intro a S
              obtain rfl := Option.some.inj eq_119
              exact ⟨rfl, S.sub (by exact ⟨rfl, rfl, rfl, rfl, rfl, rfl, trivial⟩)⟩
            · rw [if_neg hc] at eq_119; rw [show q_117 = false from Bool.eq_false_iff.2 hc] at S
              refine wl_pureK (l' := [(126, .bool false), (19, .int .i64 t_107.2), (18, .int .i64 t_107.1), (17, .int .i64 t_100.2), (16, .bool t_100.1), (7, .int .i64 t_46)]) S tys tys_ok 4 [126, 19, 18, 17, 16, 7] (by kernel_rfl) ?_
              clear S; intro a S
              obtain rfl := Option.some.inj eq_119
              exact ⟨rfl, S.sub (by exact ⟨rfl, rfl, rfl, rfl, rfl, rfl, trivial⟩)⟩
          clear S eq_119; rintro a _ ⟨rfl, S⟩
          refine wl_pure (l' := [(127, .bool q_119), (126, .bool q_119), (19, .int .i64 t_107.2), (18, .int .i64 t_107.1), (17, .int .i64 t_100.2), (16, .bool t_100.1), (7, .int .i64 t_46)]) S tys tys_ok 1 (by kernel_rfl) ?_
          clear S; intro a S
          obtain ⟨q_121, eq_121, h⟩ := bindS h
          refine seg 3 (fun a_ w_ => w_113 = w_ ∧ St 148 a_ [(130, .bool q_121), (19, .int .i64 t_107.2), (18, .int .i64 t_107.1), (17, .int .i64 t_100.2), (7, .int .i64 t_46)]) ?_ ?_
          · by_cases hc : q_119 = true
            · rw [if_pos hc] at eq_121; rw [hc] at S
              refine wl_pureK (l' := [(130, .bool (!t_100.1)), (19, .int .i64 t_107.2), (18, .int .i64 t_107.1), (17, .int .i64 t_100.2), (7, .int .i64 t_46)]) S tys tys_ok 3 [130, 19, 18, 17, 7] (by kernel_rfl) ?_
              clear S; intro a S
              obtain rfl := Option.some.inj eq_121
              exact ⟨rfl, S.sub (by exact ⟨rfl, rfl, rfl, rfl, rfl, trivial⟩)⟩
            · rw [if_neg hc] at eq_121; rw [show q_119 = false from Bool.eq_false_iff.2 hc] at S
              refine wl_pureK (l' := [(130, .bool false), (19, .int .i64 t_107.2), (18, .int .i64 t_107.1), (17, .int .i64 t_100.2), (7, .int .i64 t_46)]) S tys tys_ok 3 [130, 19, 18, 17, 7] (by kernel_rfl) ?_
              clear S; intro a S
              obtain rfl := Option.some.inj eq_121
              exact ⟨rfl, S.sub (by exact ⟨rfl, rfl, rfl, rfl, rfl, trivial⟩)⟩
          clear S eq_121; rintro a _ ⟨rfl, S⟩
          refine wl_pure (l' := [(131, .bool q_121), (130, .bool q_121), (19, .int .i64 t_107.2), (18, .int .i64 t_107.1), (17, .int .i64 t_100.2), (7, .int .i64 t_46)]) S tys tys_ok 1 (by kernel_rfl) ?_
          clear S; intro a S
          obtain ⟨q_122, eq_122, h⟩ := bindS h
          refine seg 3 (fun a_ w_ => w_113 = w_ ∧ St 148 a_ [(134, .bool q_122), (19, .int .i64 t_107.2), (17, .int .i64 t_100.2), (7, .int .i64 t_46)]) ?_ ?_
          · by_cases hc : q_121 = true
            · rw [if_pos hc] at eq_122; rw [hc] at S
              refine wl_pureK (l' := [(134, .bool (t_107.1 == 0)), (19, .int .i64 t_107.2), (17, .int .i64 t_100.2), (7, .int .i64 t_46)]) S tys tys_ok 3 [134, 19, 17, 7] (by kernel_rfl) ?_
              clear S; intro a S
              obtain rfl := Option.some.inj eq_122
              exact ⟨rfl, S.sub (by exact ⟨rfl, rfl, rfl, rfl, trivial⟩)⟩
            · rw [if_neg hc] at eq_122; rw [show q_121 = false from Bool.eq_false_iff.2 hc] at S
              refine wl_pureK (l' := [(134, .bool false), (19, .int .i64 t_107.2), (17, .int .i64 t_100.2), (7, .int .i64 t_46)]) S tys tys_ok 3 [134, 19, 17, 7] (by kernel_rfl) ?_
              clear S; intro a S
              obtain rfl := Option.some.inj eq_122
              exact ⟨rfl, S.sub (by exact ⟨rfl, rfl, rfl, rfl, trivial⟩)⟩
          clear S eq_122; rintro a _ ⟨rfl, S⟩
          refine wl_pure (l' := [(135, .bool q_122), (134, .bool q_122), (19, .int .i64 t_107.2), (17, .int .i64 t_100.2), (7, .int .i64 t_46)]) S tys tys_ok 1 (by kernel_rfl) ?_
          clear S; intro a S
          obtain ⟨q_123, eq_123, h⟩ := bindS h
          refine seg 4 (fun a_ w_ => w_113 = w_ ∧ St 148 a_ [(139, .bool q_123), (19, .int .i64 t_107.2), (7, .int .i64 t_46)]) ?_ ?_
          · by_cases hc : q_122 = true
            · rw [if_pos hc] at eq_123; rw [hc] at S
              refine wl_pureK (l' := [(139, .bool (t_100.2 == t_46)), (19, .int .i64 t_107.2), (7, .int .i64 t_46)]) S tys tys_ok 4 [139, 19, 7] (by kernel_rfl) ?_
              clear S; intro a S
              obtain rfl := Option.some.inj eq_123
              exact ⟨rfl, S.sub (by exact ⟨rfl, rfl, rfl, trivial⟩)⟩
            · rw [if_neg hc] at eq_123; rw [show q_122 = false from Bool.eq_false_iff.2 hc] at S
              refine wl_pureK (l' := [(139, .bool false), (19, .int .i64 t_107.2), (7, .int .i64 t_46)]) S tys tys_ok 4 [139, 19, 7] (by kernel_rfl) ?_
              clear S; intro a S
              obtain rfl := Option.some.inj eq_123
              exact ⟨rfl, S.sub (by exact ⟨rfl, rfl, rfl, trivial⟩)⟩
          clear S eq_123; rintro a _ ⟨rfl, S⟩
          refine wl_pure (l' := [(140, .bool q_123), (139, .bool q_123), (19, .int .i64 t_107.2), (7, .int .i64 t_46)]) S tys tys_ok 1 (by kernel_rfl) ?_
          clear S; intro a S
          obtain ⟨q_124, eq_124, h⟩ := bindS h
          refine seg 4 (fun a_ w_ => w_113 = w_ ∧ St 148 a_ [(144, .bool q_124)]) ?_ ?_
          · by_cases hc : q_123 = true
            · rw [if_pos hc] at eq_124; rw [hc] at S
              refine wl_pureK (l' := [(144, .bool (t_107.2 == t_46))]) S tys tys_ok 4 [144] (by kernel_rfl) ?_
              clear S; intro a S
              obtain rfl := Option.some.inj eq_124
              exact ⟨rfl, S.sub (by exact ⟨rfl, trivial⟩)⟩
            · rw [if_neg hc] at eq_124; rw [show q_123 = false from Bool.eq_false_iff.2 hc] at S
              refine wl_pureK (l' := [(144, .bool false)]) S tys tys_ok 4 [144] (by kernel_rfl) ?_
              clear S; intro a S
              obtain rfl := Option.some.inj eq_124
              exact ⟨rfl, S.sub (by exact ⟨rfl, trivial⟩)⟩
          clear S eq_124; rintro a _ ⟨rfl, S⟩
          refine wl_pure (l' := [(145, .bool q_124), (144, .bool q_124)]) S tys tys_ok 1 (by kernel_rfl) ?_
          clear S; intro a S
          obtain ⟨q_125, eq_125, h⟩ := bindS h
          refine seg 2 (fun a_ w_ => St 148 a_ [(147, .bool q_125)] ∧ Wd w w_ [v_65.ownBlock, v_58.ownBlock]) ?_ ?_
          · by_cases hc : q_124 = true
            · rw [if_pos hc] at eq_125; rw [hc] at S
              obtain ⟨t_126, et_126, eq_125⟩ := bindS eq_125
              refine w_go S rfl (op_call (vs := []) S rfl cb19 rfl rfl rfl (c19 (Kx K w.heap.size [v_65.ownBlock, v_58.ownBlock]) n w_113  et_126) ?_)
              rintro _ w_130 ⟨v_127, rfl, R_128, hb_129⟩; refine ⟨_, rfl, ?_⟩
              replace R_128 := RepV.back R_128 W
              clear S; intro a S
              replace W := W.step hb_129
              obtain rfl := RepV.bool R_128
              refine wl_pureK (l' := [(147, .bool t_126)]) S tys tys_ok 1 [147] (by kernel_rfl) ?_
              clear S; intro a S
              obtain rfl := Option.some.inj eq_125
              exact ⟨S.sub (by exact ⟨rfl, trivial⟩), W⟩
            · rw [if_neg hc] at eq_125; rw [show q_124 = false from Bool.eq_false_iff.2 hc] at S
              refine wl_pureK (l' := [(147, .bool false)]) S tys tys_ok 2 [147] (by kernel_rfl) ?_
              clear S; intro a S
              obtain rfl := Option.some.inj eq_125
              exact ⟨S.sub (by exact ⟨rfl, trivial⟩), W⟩
          clear S W eq_125; rintro a w_131 ⟨S, W⟩
          refine wl_pure (l' := [(4, .bool q_125), (147, .bool q_125)]) S tys tys_ok 1 (by kernel_rfl) ?_
          clear S; intro a S
          refine wpList_nil ?_
          refine then_n ?_
          replace S := S.sub (l' := [(4, .bool q_125)]) (by exact ⟨rfl, trivial⟩)
          refine wp_ret ?_
          obtain rfl := Option.some.inj h
          exact b_ret1 S rfl rfl ⟨_, rfl, RepV.mkBool, W.below⟩

end Go.Proofs.Ytnelgpgmggcdcaa
