/- Functions of the program, as plain data. -/
import Derived.Test.YtpllbhofpppfcaaP1
set_option linter.unusedVariables false
set_option linter.unusedSimpArgs false
namespace Go.Proofs.Ytpllbhofpppfcaa
open Go.RowKit

def p18_l1 (n : Nat) (x0 : Bool × Int × Int × (Sl (Sl (Int))) × Int) : Nat → (Int) → (List (Sl (Int))) → Option (((List (Sl (Int)))) ⊕ (((Bool × Int × Int × (Sl (Sl (Int))) × Int) × Int × (Sl (Int × (Sl (Int))))) × (Int)))
  | 0, _, _ => .none
  | m + 1, c_88, c_90 => if (decide (c_88 < (lenI x0.2.2.2.1))) then ((idx x0.2.2.2.1.xs c_88).bind fun y_106 => if (decide ((lenI y_106) > x0.2.2.1)) then (some (.inr (((false, 0, 0, ⟨[], some 0⟩, 0), 0, ⟨[], some 0⟩), 3))) else (p25 n y_106).bind fun t_124 => (appI c_90 ([t_124])).bind fun l_165 => (ckI .i64 (c_88 + 1)).bind fun x_172 => p18_l1 n x0 m x_172 l_165) else some (.inl c_90)
def p18 (n : Nat) (x0 : Bool × Int × Int × (Sl (Sl (Int))) × Int) : Option (((Bool × Int × Int × (Sl (Sl (Int))) × Int) × Int × (Sl (Int × (Sl (Int))))) × (Int)) :=
  (if (decide (x0.2.1 < 1)) = false then some (decide (x0.2.1 > 15)) else some true).bind fun q_11 =>
  (if q_11 = false then some (decide (x0.2.2.1 < 1)) else some true).bind fun q_14 =>
  (if q_14 = false then some (decide (x0.2.2.1 > 1024)) else some true).bind fun q_17 =>
  if q_17 then (some (((false, 0, 0, ⟨[], some 0⟩, 0), 0, ⟨[], some 0⟩), 1)) else (if x0.1 = true then (if (decide ((lenI x0.2.2.2.1) > 0)) = false then some (decide (x0.2.2.2.2 < 1)) else some true).bind fun q_33 => some q_33 else some false).bind fun q_29 => (if q_29 = false then (if (!x0.1) = true then (if ((lenI x0.2.2.2.1) == 0) = false then some (x0.2.2.2.2 != 0) else some true).bind fun q_43 => some q_43 else some false).bind fun q_39 => some q_39 else some true).bind fun q_36 => if q_36 then (some (((false, 0, 0, ⟨[], some 0⟩, 0), 0, ⟨[], some 0⟩), 1)) else (if (decide (x0.2.2.2.2 > 256)) = false then some (decide ((lenI x0.2.2.2.1) > 256)) else some true).bind fun q_55 => if q_55 then (some (((false, 0, 0, ⟨[], some 0⟩, 0), 0, ⟨[], some 0⟩), 3)) else (ckI .i64 (x0.2.2.2.2 + (lenI x0.2.2.2.1))).bind fun x_73 => (p18_l1 n x0 n 0 []).bind fun (y_98 : ((List (Sl (Int)))) ⊕ (((Bool × Int × Int × (Sl (Sl (Int))) × Int) × Int × (Sl (Int × (Sl (Int))))) × (Int))) => lrK y_98 some fun (s_99 : (List (Sl (Int)))) => some (((x0.1, x0.2.1, x0.2.2.1, (⟨s_99, .none⟩ : Sl (Sl (Int))), x0.2.2.2.2), x_73, ⟨[], some 0⟩), 0)
set_option maxHeartbeats 4000000 in
set_option maxRecDepth 100000 in
/-- plugboard/periodics.Start -/
theorem c18 (K : Nat → Prop) (n : Nat) (w : World) (x0 : Bool × Int × Int × (Sl (Sl (Int))) × Int) (v0 : Value) (R0 : RepV (.st (.pair .bool (.pair (.int .u8) (.pair (.int .i64) (.pair (.sl (.sl (.int .u8))) (.int .i64)))))) w K v0 x0) {r : ((Bool × Int × Int × (Sl (Sl (Int))) × Int) × Int × (Sl (Int × (Sl (Int))))) × (Int)} (h : p18 n x0 = some r) :
    Calls Try.prog 18 #[v0] w (Ret2 (.st (.pair (.st (.pair .bool (.pair (.int .u8) (.pair (.int .i64) (.pair (.sl (.sl (.int .u8))) (.int .i64)))))) (.pair (.int .i64) (.sl (.st (.pair (.int .i64) (.sl (.int .u8)))))))) (.int .i64) w (Kx K w.heap.size []) r) := by
  refine enter (args := [v0]) Try.func18 rfl 103 rfl rfl fun a S => ?_
  have W := Wd.start w
  replace R0 := R0.arg
  unfold p18 at h
  replace S : St 103 a [(0, v0)] := S
  refine wp_seq ?_
  refine wp_region_lit ?_
  refine w_go S rfl (op_box S rfl rfl rfl rfl rfl R0 ?_)
  clear S; intro a w_3 b_1 hb_4 B_2 S
  replace R0 := R0.box hb_4
  replace W := W.box hb_4
  refine w_go S rfl (op_alloc (K := K) (n := w.heap.size) (L := [some b_1]) (t := (.st (.pair (.st (.pair .bool (.pair (.int .u8) (.pair (.int .i64) (.pair .raw (.int .i64)))))) (.pair (.int .i64) (.sl (.st (.pair (.int .i64) (.sl (.int .u8))))))))) (y := ((false, 0, 0, (.slice .none 0 0), 0), 0, ⟨[], some 0⟩)) S rfl rfl rfl _ z47 (fun w K => ⟨[.bool false, .int .u8 0, .int .i64 0, .slice .none 0 0, .int .i64 0], [.int .i64 0, .slice .none 0 0], rfl, ⟨[.bool false], [.int .u8 0, .int .i64 0, .slice .none 0 0, .int .i64 0], rfl, rfl, ⟨[.int .u8 0], [.int .i64 0, .slice .none 0 0, .int .i64 0], rfl, ⟨rfl, by decide⟩, ⟨[.int .i64 0], [.slice .none 0 0, .int .i64 0], rfl, ⟨rfl, by decide⟩, ⟨[.slice .none 0 0], [.int .i64 0], rfl, ⟨rfl, _, _, _, rfl⟩, ⟨rfl, by decide⟩⟩⟩⟩⟩, ⟨[.int .i64 0], [.slice .none 0 0], rfl, ⟨rfl, by decide⟩, ⟨.none, 0, 0, rfl, rfl, Nat.le_refl _, by decide, fun k h => Option.some.inj h, .inl rfl⟩⟩⟩) ?_)
  clear S; intro a w_7 b_5 hb_8 B_6 S
  replace R0 := R0.box hb_8
  replace B_2 := B_2.box hb_8
  replace W := W.box hb_8
  refine wl_pure (l' := [(3, .int .i64 0), (2, .pointer (some (⟨b_5, 0, .none⟩ : Addr))), (1, .pointer (some (⟨b_1, 0, .none⟩ : Addr))), (0, v0)]) S tys tys_ok 1 (by kernel_rfl) ?_
  clear S; intro a S
  refine wpList_nil ?_
  refine then_n ?_
  replace S := S.sub (l' := [(2, .pointer (some (⟨b_5, 0, .none⟩ : Addr))), (1, .pointer (some (⟨b_1, 0, .none⟩ : Addr)))]) (by exact ⟨rfl, rfl, trivial⟩)
  refine wp_seq ?_
  refine wp_block ?_
  refine wp_seq ?_
  refine wp_region_lit ?_
  refine wl_pure (l' := [(8, .pointer (some ((⟨b_1, 0, .none⟩ : Addr).add (coff (.pair .bool (.pair (.int .u8) (.pair (.int .i64) (.pair (.sl (.sl (.int .u8))) (.int .i64))))) 1)))), (2, .pointer (some (⟨b_5, 0, .none⟩ : Addr))), (1, .pointer (some (⟨b_1, 0, .none⟩ : Addr)))]) S tys tys_ok 1 (by kernel_rfl) ?_
  clear S; intro a S
  refine w_go S rfl (op_load (t := (.int .u8)) (x := x0.2.1) S rfl ty5 rfl rfl rfl (RepAt.add 1 (RepAt.st (t := (.pair .bool (.pair (.int .u8) (.pair (.int .i64) (.pair (.sl (.sl (.int .u8))) (.int .i64)))))) B_2.at_)) ?_)
  clear S; intro a v_9 R_10 S
  obtain ⟨rfl, GR_10⟩ := RepV.int R_10
  refine wl_pure (l' := [(11, .bool (decide (x0.2.1 < 1))), (10, .bool (decide (x0.2.1 < 1))), (9, .int .u8 x0.2.1), (8, .pointer (some ((⟨b_1, 0, .none⟩ : Addr).add (coff (.pair .bool (.pair (.int .u8) (.pair (.int .i64) (.pair (.sl (.sl (.int .u8))) (.int .i64))))) 1)))), (2, .pointer (some (⟨b_5, 0, .none⟩ : Addr))), (1, .pointer (some (⟨b_1, 0, .none⟩ : Addr)))]) S tys tys_ok 2 (by kernel_rfl) ?_
  clear S; intro a S
  obtain ⟨q_11, eq_11, h⟩ := bindS h
  refine seg 4 (fun a_ w_ => w_7 = w_ ∧ St 103 a_ [(15, .bool q_11), (2, .pointer (some (⟨b_5, 0, .none⟩ : Addr))), (1, .pointer (some (⟨b_1, 0, .none⟩ : Addr)))]) ?_ ?_
  · by_cases hc : (decide (x0.2.1 < 1)) = false
    · rw [if_pos hc] at eq_11; rw [hc] at S
      refine wl_pure (l' := [(12, .pointer (some ((⟨b_1, 0, .none⟩ : Addr).add (coff (.pair .bool (.pair (.int .u8) (.pair (.int .i64) (.pair (.sl (.sl (.int .u8))) (.int .i64))))) 1)))), (11, .bool false), (10, .bool false), (9, .int .u8 x0.2.1), (8, .pointer (some ((⟨b_1, 0, .none⟩ : Addr).add (coff (.pair .bool (.pair (.int .u8) (.pair (.int .i64) (.pair (.sl (.sl (.int .u8))) (.int .i64))))) 1)))), (2, .pointer (some (⟨b_5, 0, .none⟩ : Addr))), (1, .pointer (some (⟨b_1, 0, .none⟩ : Addr)))]) S tys tys_ok 1 (by kernel_rfl) ?_
      clear S; intro a S
      refine w_go S rfl (op_load (t := (.int .u8)) (x := x0.2.1) S rfl ty5 rfl rfl rfl (RepAt.add 1 (RepAt.st (t := (.pair .bool (.pair (.int .u8) (.pair (.int .i64) (.pair (.sl (.sl (.int .u8))) (.int .i64)))))) B_2.at_)) ?_)
      clear S; intro a v_12 R_13 S
      obtain ⟨rfl, GR_13⟩ := RepV.int R_13
      refine wl_pure (l' := [(15, .bool (decide (x0.2.1 > 15))), (14, .bool (decide (x0.2.1 > 15))), (13, .int .u8 x0.2.1), (12, .pointer (some ((⟨b_1, 0, .none⟩ : Addr).add (coff (.pair .bool (.pair (.int .u8) (.pair (.int .i64) (.pair (.sl (.sl (.int .u8))) (.int .i64))))) 1)))), (11, .bool false), (10, .bool false), (9, .int .u8 x0.2.1), (8, .pointer (some ((⟨b_1, 0, .none⟩ : Addr).add (coff (.pair .bool (.pair (.int .u8) (.pair (.int .i64) (.pair (.sl (.sl (.int .u8))) (.int .i64))))) 1)))), (2, .pointer (some (⟨b_5, 0, .none⟩ : Addr))), (1, .pointer (some (⟨b_1, 0, .none⟩ : Addr)))]) S tys tys_ok 2 (by kernel_rfl) ?_
      clear S; intro a S
      obtain rfl := Option.some.inj eq_11
      exact ⟨rfl, S.sub (by exact ⟨rfl, rfl, rfl, trivial⟩)⟩
    · rw [if_neg hc] at eq_11; rw [show (decide (x0.2.1 < 1)) = true from (by simpa using hc)] at S
      refine wl_pure (l' := [(15, .bool true), (14, undef), (13, undef), (12, undef), (11, .bool true), (10, .bool true), (9, .int .u8 x0.2.1), (8, .pointer (some ((⟨b_1, 0, .none⟩ : Addr).add (coff (.pair .bool (.pair (.int .u8) (.pair (.int .i64) (.pair (.sl (.sl (.int .u8))) (.int .i64))))) 1)))), (2, .pointer (some (⟨b_5, 0, .none⟩ : Addr))), (1, .pointer (some (⟨b_1, 0, .none⟩ : Addr)))]) S tys tys_ok 4 (by kernel_rfl) ?_
      clear S; intro a S
      obtain rfl := Option.some.inj eq_11
      exact ⟨rfl, S.sub (by exact ⟨rfl, rfl, rfl, trivial⟩)⟩
  clear S eq_11; rintro a _ ⟨rfl, S⟩
  refine wl_pure (l' := [(16, .bool q_11), (15, .bool q_11), (2, .pointer (some (⟨b_5, 0, .none⟩ : Addr))), (1, .pointer (some (⟨b_1, 0, .none⟩ : Addr)))]) S tys tys_ok 1 (by kernel_rfl) ?_
  clear S; intro a S
  obtain ⟨q_14, eq_14, h⟩ := bindS h
  refine seg 4 (fun a_ w_ => w_7 = w_ ∧ St 103 a_ [(20, .bool q_14), (2, .pointer (some (⟨b_5, 0, .none⟩ : Addr))), (1, .pointer (some (⟨b_1, 0, .none⟩ : Addr)))]) ?_ ?_
  · by_cases hc : q_11 = false
    · rw [if_pos hc] at eq_14; rw [hc] at S
      refine wl_pure (l' := [(17, .pointer (some ((⟨b_1, 0, .none⟩ : Addr).add (coff (.pair .bool (.pair (.int .u8) (.pair (.int .i64) (.pair (.sl (.sl (.int .u8))) (.int .i64))))) 2)))), (16, .bool false), (15, .bool false), (2, .pointer (some (⟨b_5, 0, .none⟩ : Addr))), (1, .pointer (some (⟨b_1, 0, .none⟩ : Addr)))]) S tys tys_ok 1 (by kernel_rfl) ?_
      clear S; intro a S
      refine w_go S rfl (op_load (t := (.int .i64)) (x := x0.2.2.1) S rfl ty3 rfl rfl rfl (RepAt.add 2 (RepAt.st (t := (.pair .bool (.pair (.int .u8) (.pair (.int .i64) (.pair (.sl (.sl (.int .u8))) (.int .i64)))))) B_2.at_)) ?_)
      clear S; intro a v_15 R_16 S
      obtain ⟨rfl, GR_16⟩ := RepV.int R_16
      refine wl_pure (l' := [(20, .bool (decide (x0.2.2.1 < 1))), (19, .bool (decide (x0.2.2.1 < 1))), (18, .int .i64 x0.2.2.1), (17, .pointer (some ((⟨b_1, 0, .none⟩ : Addr).add (coff (.pair .bool (.pair (.int .u8) (.pair (.int .i64) (.pair (.sl (.sl (.int .u8))) (.int .i64))))) 2)))), (16, .bool false), (15, .bool false), (2, .pointer (some (⟨b_5, 0, .none⟩ : Addr))), (1, .pointer (some (⟨b_1, 0, .none⟩ : Addr)))]) S tys tys_ok 2 (by kernel_rfl) ?_
      clear S; intro a S
      obtain rfl := Option.some.inj eq_14
      exact ⟨rfl, S.sub (by exact ⟨rfl, rfl, rfl, trivial⟩)⟩
    · rw [if_neg hc] at eq_14; rw [show q_11 = true from (by simpa using hc)] at S
      refine wl_pure (l' := [(20, .bool true), (19, undef), (18, undef), (17, undef), (16, .bool true), (15, .bool true), (2, .pointer (some (⟨b_5, 0, .none⟩ : Addr))), (1, .pointer (some (⟨b_1, 0, .none⟩ : Addr)))]) S tys tys_ok 4 (by kernel_rfl) ?_
      clear S; intro a S
      obtain rfl := Option.some.inj eq_14
      exact ⟨rfl, S.sub (by exact ⟨rfl, rfl, rfl, trivial⟩)⟩
  clear S eq_14; rintro a _ ⟨rfl, S⟩
  refine wl_pure (l' := [(21, .bool q_14), (20, .bool q_14), (2, .pointer (some (⟨b_5, 0, .none⟩ : Addr))), (1, .pointer (some (⟨b_1, 0, .none⟩ : Addr)))]) S tys tys_ok 1 (by kernel_rfl) ?_
  clear S; intro a S
  obtain ⟨q_17, eq_17, h⟩ := bindS h
  refine seg 4 (fun a_ w_ => w_7 = w_ ∧ St 103 a_ [(25, .bool q_17), (2, .pointer (some (⟨b_5, 0, .none⟩ : Addr))), (1, .pointer (some (⟨b_1, 0, .none⟩ : Addr)))]) ?_ ?_
  · by_cases hc : q_14 = false
    · rw [if_pos hc] at eq_17; rw [hc] at S
      refine wl_pure (l' := [(22, .pointer (some ((⟨b_1, 0, .none⟩ : Addr).add (coff (.pair .bool (.pair (.int .u8) (.pair (.int .i64) (.pair (.sl (.sl (.int .u8))) (.int .i64))))) 2)))), (21, .bool false), (20, .bool false), (2, .pointer (some (⟨b_5, 0, .none⟩ : Addr))), (1, .pointer (some (⟨b_1, 0, .none⟩ : Addr)))]) S tys tys_ok 1 (by kernel_rfl) ?_
      clear S; intro a S
      refine w_go S rfl (op_load (t := (.int .i64)) (x := x0.2.2.1) S rfl ty3 rfl rfl rfl (RepAt.add 2 (RepAt.st (t := (.pair .bool (.pair (.int .u8) (.pair (.int .i64) (.pair (.sl (.sl (.int .u8))) (.int .i64)))))) B_2.at_)) ?_)
      clear S; intro a v_18 R_19 S
      obtain ⟨rfl, GR_19⟩ := RepV.int R_19
      refine wl_pure (l' := [(25, .bool (decide (x0.2.2.1 > 1024))), (24, .bool (decide (x0.2.2.1 > 1024))), (23, .int .i64 x0.2.2.1), (22, .pointer (some ((⟨b_1, 0, .none⟩ : Addr).add (coff (.pair .bool (.pair (.int .u8) (.pair (.int .i64) (.pair (.sl (.sl (.int .u8))) (.int .i64))))) 2)))), (21, .bool false), (20, .bool false), (2, .pointer (some (⟨b_5, 0, .none⟩ : Addr))), (1, .pointer (some (⟨b_1, 0, .none⟩ : Addr)))]) S tys tys_ok 2 (by kernel_rfl) ?_
      clear S; intro a S
      obtain rfl := Option.some.inj eq_17
      exact ⟨rfl, S.sub (by exact ⟨rfl, rfl, rfl, trivial⟩)⟩
    · rw [if_neg hc] at eq_17; rw [show q_14 = true from (by simpa using hc)] at S
      refine wl_pure (l' := [(25, .bool true), (24, undef), (23, undef), (22, undef), (21, .bool true), (20, .bool true), (2, .pointer (some (⟨b_5, 0, .none⟩ : Addr))), (1, .pointer (some (⟨b_1, 0, .none⟩ : Addr)))]) S tys tys_ok 4 (by kernel_rfl) ?_
      clear S; intro a S
      obtain rfl := Option.some.inj eq_17
      exact ⟨rfl, S.sub (by exact ⟨rfl, rfl, rfl, trivial⟩)⟩
  clear S eq_17; rintro a _ ⟨rfl, S⟩
  refine wl_pure (l' := [(7, .bool q_17), (25, .bool q_17), (2, .pointer (some (⟨b_5, 0, .none⟩ : Addr))), (1, .pointer (some (⟨b_1, 0, .none⟩ : Addr)))]) S tys tys_ok 1 (by kernel_rfl) ?_
  clear S; intro a S
  refine wpList_nil ?_
  refine then_n ?_
  replace S := S.sub (l' := [(7, .bool q_17), (2, .pointer (some (⟨b_5, 0, .none⟩ : Addr))), (1, .pointer (some (⟨b_1, 0, .none⟩ : Addr)))]) (by exact ⟨rfl, rfl, rfl, trivial⟩)
  refine wp_cond_split (S.eval (show ev _ _ = some (.bool q_17) from rfl)) ?_ ?_
  · intro hc
    rw [if_pos hc] at h
    refine wp_seq ?_
    refine wp_region_lit ?_
    refine w_go S rfl (op_build (K := (Kx K w.heap.size [some b_5, some b_1])) (f := (.pair (.st (.pair .bool (.pair (.int .u8) (.pair (.int .i64) (.pair (.sl (.sl (.int .u8))) (.int .i64)))))) (.pair (.int .i64) (.sl (.st (.pair (.int .i64) (.sl (.int .u8)))))))) (z0 := ((false, 0, 0, ⟨[], some 0⟩, 0), 0, ⟨[], some 0⟩)) (x := ((false, 0, 0, ⟨[], some 0⟩, 0), 0, ⟨[], some 0⟩)) (vs := []) S _ rfl ty47 z47 (fun w K => ⟨[.bool false, .int .u8 0, .int .i64 0, .slice .none 0 0, .int .i64 0], [.int .i64 0, .slice .none 0 0], rfl, ⟨[.bool false], [.int .u8 0, .int .i64 0, .slice .none 0 0, .int .i64 0], rfl, rfl, ⟨[.int .u8 0], [.int .i64 0, .slice .none 0 0, .int .i64 0], rfl, ⟨rfl, by decide⟩, ⟨[.int .i64 0], [.slice .none 0 0, .int .i64 0], rfl, ⟨rfl, by decide⟩, ⟨[.slice .none 0 0], [.int .i64 0], rfl, ⟨.none, 0, 0, rfl, rfl, Nat.le_refl _, by decide, fun k h => Option.some.inj h, .inl rfl⟩, ⟨rfl, by decide⟩⟩⟩⟩⟩, ⟨[.int .i64 0], [.slice .none 0 0], rfl, ⟨rfl, by decide⟩, ⟨.none, 0, 0, rfl, rfl, Nat.le_refl _, by decide, fun k h => Option.some.inj h, .inl rfl⟩⟩⟩) rfl rfl rfl [] rfl rfl ?_)
    clear S; intro a v_20 R_21 S
    replace B_6 : Bx (.st (.pair (.st (.pair .bool (.pair (.int .u8) (.pair (.int .i64) (.pair (.sl (.sl (.int .u8))) (.int .i64)))))) (.pair (.int .i64) (.sl (.st (.pair (.int .i64) (.sl (.int .u8)))))))) 47 w_7 (Kx K w.heap.size [some b_5, some b_1]) b_5 ((false, 0, 0, (⟨[], some 0⟩ : Sl (Sl (Int))), 0), 0, ⟨[], some 0⟩) := Bx.unrawX (t' := (.st (.pair (.st (.pair .bool (.pair (.int .u8) (.pair (.int .i64) (.pair (.sl (.sl (.int .u8))) (.int .i64)))))) (.pair (.int .i64) (.sl (.st (.pair (.int .i64) (.sl (.int .u8))))))))) (Lx.st (Lx.left (Lx.st (Lx.right (Lx.right (Lx.right (Lx.left Lx.here))))))) B_6 RepV.nil
    refine w_go S rfl (op_store (t' := (.st (.pair (.st (.pair .bool (.pair (.int .u8) (.pair (.int .i64) (.pair (.sl (.sl (.int .u8))) (.int .i64)))))) (.pair (.int .i64) (.sl (.st (.pair (.int .i64) (.sl (.int .u8))))))))) S rfl rfl ty47 rfl rfl rfl B_6 (by simp) Ln.whole R_21 ?_)
    intro w_22 hw_23 B_
    replace R_21 := R_21.wrote hw_23 (by simp)
    replace B_2 := B_2.wrote hw_23 (by simp) (W.bne (p := 1) (q := 0) (by decide) rfl rfl)
    replace W := W.wrote hw_23 (by simp)
    replace B_6 : Bx (.st (.pair (.st (.pair .bool (.pair (.int .u8) (.pair (.int .i64) (.pair (.sl (.sl (.int .u8))) (.int .i64)))))) (.pair (.int .i64) (.sl (.st (.pair (.int .i64) (.sl (.int .u8)))))))) 47 w_22 (Kx K w.heap.size [some b_5, some b_1]) b_5 ((false, 0, 0, ⟨[], some 0⟩, 0), 0, ⟨[], some 0⟩) := B_; clear B_
    refine wl_pure (l' := [(3, .int .i64 1), (26, v_20), (7, .bool q_17), (2, .pointer (some (⟨b_5, 0, .none⟩ : Addr))), (1, .pointer (some (⟨b_1, 0, .none⟩ : Addr)))]) S tys tys_ok 1 (by kernel_rfl) ?_
    clear S; intro a S
    refine wpList_nil ?_
    refine then_n ?_
    replace S := S.sub (l' := [(3, .int .i64 1), (2, .pointer (some (⟨b_5, 0, .none⟩ : Addr)))]) (by exact ⟨rfl, rfl, trivial⟩)
    refine wp_ret ?_
    refine blk_r ?_
    refine then_r ?_
    obtain ⟨v_24, hr_25, R_26⟩ := res_cell (P := Try.prog) (T := 47) (t := (.st (.pair (.st (.pair .bool (.pair (.int .u8) (.pair (.int .i64) (.pair (.sl (.sl (.int .u8))) (.int .i64)))))) (.pair (.int .i64) (.sl (.st (.pair (.int .i64) (.sl (.int .u8))))))))) (x := ((false, 0, 0, ⟨[], some 0⟩, 0), 0, ⟨[], some 0⟩)) S (s := 2) rfl ty47 B_6.at_
    obtain rfl := Option.some.inj h
    exact b_res2 S rfl hr_25 (res_tmp S rfl) ⟨_, _, rfl, R_26.out, (RepV.mkInt (by decide)), W.below⟩
  · intro hc
    rw [if_neg (Bool.eq_false_iff.1 hc)] at h
    refine wp_seq ?_
    refine wp_region_lit ?_
    refine wl_pure (l' := [(28, .pointer (some ((⟨b_1, 0, .none⟩ : Addr).add (coff (.pair .bool (.pair (.int .u8) (.pair (.int .i64) (.pair (.sl (.sl (.int .u8))) (.int .i64))))) 0)))), (7, .bool q_17), (2, .pointer (some (⟨b_5, 0, .none⟩ : Addr))), (1, .pointer (some (⟨b_1, 0, .none⟩ : Addr)))]) S tys tys_ok 1 (by kernel_rfl) ?_
    clear S; intro a S
    refine w_go S rfl (op_load (t := .bool) (x := x0.1) S rfl ty4 rfl rfl rfl (RepAt.add 0 (RepAt.st (t := (.pair .bool (.pair (.int .u8) (.pair (.int .i64) (.pair (.sl (.sl (.int .u8))) (.int .i64)))))) B_2.at_)) ?_)
    clear S; intro a v_27 R_28 S
    obtain rfl := RepV.bool R_28
    refine wl_pure (l' := [(30, .bool x0.1), (29, .bool x0.1), (28, .pointer (some ((⟨b_1, 0, .none⟩ : Addr).add (coff (.pair .bool (.pair (.int .u8) (.pair (.int .i64) (.pair (.sl (.sl (.int .u8))) (.int .i64))))) 0)))), (7, .bool q_17), (2, .pointer (some (⟨b_5, 0, .none⟩ : Addr))), (1, .pointer (some (⟨b_1, 0, .none⟩ : Addr)))]) S tys tys_ok 1 (by kernel_rfl) ?_
    clear S; intro a S
    obtain ⟨q_29, eq_29, h⟩ := bindS h
    refine seg 10 (fun a_ w_ => w_7 = w_ ∧ St 103 a_ [(40, .bool q_29), (2, .pointer (some (⟨b_5, 0, .none⟩ : Addr))), (1, .pointer (some (⟨b_1, 0, .none⟩ : Addr)))]) ?_ ?_
    · by_cases hc : x0.1 = true
      · rw [if_pos hc] at eq_29; rw [hc] at S
        refine wl_pure (l' := [(31, .pointer (some ((⟨b_1, 0, .none⟩ : Addr).add (coff (.pair .bool (.pair (.int .u8) (.pair (.int .i64) (.pair (.sl (.sl (.int .u8))) (.int .i64))))) 3)))), (30, .bool true), (29, .bool true), (28, .pointer (some ((⟨b_1, 0, .none⟩ : Addr).add (coff (.pair .bool (.pair (.int .u8) (.pair (.int .i64) (.pair (.sl (.sl (.int .u8))) (.int .i64))))) 0)))), (7, .bool q_17), (2, .pointer (some (⟨b_5, 0, .none⟩ : Addr))), (1, .pointer (some (⟨b_1, 0, .none⟩ : Addr)))]) S tys tys_ok 1 (by kernel_rfl) ?_
        clear S; intro a S
        refine w_go S rfl (op_load (t := (.sl (.sl (.int .u8)))) (x := x0.2.2.2.1) S rfl ty40 rfl rfl rfl (RepAt.add 3 (RepAt.st (t := (.pair .bool (.pair (.int .u8) (.pair (.int .i64) (.pair (.sl (.sl (.int .u8))) (.int .i64)))))) B_2.at_)) ?_)
        clear S; intro a v_30 R_31 S
        refine w_go S rfl (op_len (K := _) S rfl ty40 rfl rfl rfl R_31 ?_)
        clear S; intro a G_32 S
        refine wl_pure (l' := [(35, .bool (decide ((lenI x0.2.2.2.1) > 0))), (34, .bool (decide ((lenI x0.2.2.2.1) > 0))), (33, .int .i64 (lenI x0.2.2.2.1)), (32, v_30), (31, .pointer (some ((⟨b_1, 0, .none⟩ : Addr).add (coff (.pair .bool (.pair (.int .u8) (.pair (.int .i64) (.pair (.sl (.sl (.int .u8))) (.int .i64))))) 3)))), (30, .bool true), (29, .bool true), (28, .pointer (some ((⟨b_1, 0, .none⟩ : Addr).add (coff (.pair .bool (.pair (.int .u8) (.pair (.int .i64) (.pair (.sl (.sl (.int .u8))) (.int .i64))))) 0)))), (7, .bool q_17), (2, .pointer (some (⟨b_5, 0, .none⟩ : Addr))), (1, .pointer (some (⟨b_1, 0, .none⟩ : Addr)))]) S tys tys_ok 2 (by kernel_rfl) ?_
        clear S; intro a S
        obtain ⟨q_33, eq_33, eq_29⟩ := bindS eq_29
        refine seg 4 (fun a_ w_ => w_7 = w_ ∧ St 103 a_ [(39, .bool q_33), (30, .bool true), (2, .pointer (some (⟨b_5, 0, .none⟩ : Addr))), (1, .pointer (some (⟨b_1, 0, .none⟩ : Addr)))]) ?_ ?_
        · by_cases hc : (decide ((lenI x0.2.2.2.1) > 0)) = false
          · rw [if_pos hc] at eq_33; rw [hc] at S
            refine wl_pure (l' := [(36, .pointer (some ((⟨b_1, 0, .none⟩ : Addr).add (coff (.pair .bool (.pair (.int .u8) (.pair (.int .i64) (.pair (.sl (.sl (.int .u8))) (.int .i64))))) 4)))), (35, .bool false), (34, .bool false), (33, .int .i64 (lenI x0.2.2.2.1)), (32, v_30), (31, .pointer (some ((⟨b_1, 0, .none⟩ : Addr).add (coff (.pair .bool (.pair (.int .u8) (.pair (.int .i64) (.pair (.sl (.sl (.int .u8))) (.int .i64))))) 3)))), (30, .bool true), (29, .bool true), (28, .pointer (some ((⟨b_1, 0, .none⟩ : Addr).add (coff (.pair .bool (.pair (.int .u8) (.pair (.int .i64) (.pair (.sl (.sl (.int .u8))) (.int .i64))))) 0)))), (7, .bool q_17), (2, .pointer (some (⟨b_5, 0, .none⟩ : Addr))), (1, .pointer (some (⟨b_1, 0, .none⟩ : Addr)))]) S tys tys_ok 1 (by kernel_rfl) ?_
            clear S; intro a S
            refine w_go S rfl (op_load (t := (.int .i64)) (x := x0.2.2.2.2) S rfl ty3 rfl rfl rfl (RepAt.add 4 (RepAt.st (t := (.pair .bool (.pair (.int .u8) (.pair (.int .i64) (.pair (.sl (.sl (.int .u8))) (.int .i64)))))) B_2.at_)) ?_)
            clear S; intro a v_34 R_35 S
            obtain ⟨rfl, GR_35⟩ := RepV.int R_35
            refine wl_pure (l' := [(39, .bool (decide (x0.2.2.2.2 < 1))), (38, .bool (decide (x0.2.2.2.2 < 1))), (37, .int .i64 x0.2.2.2.2), (36, .pointer (some ((⟨b_1, 0, .none⟩ : Addr).add (coff (.pair .bool (.pair (.int .u8) (.pair (.int .i64) (.pair (.sl (.sl (.int .u8))) (.int .i64))))) 4)))), (35, .bool false), (34, .bool false), (33, .int .i64 (lenI x0.2.2.2.1)), (32, v_30), (31, .pointer (some ((⟨b_1, 0, .none⟩ : Addr).add (coff (.pair .bool (.pair (.int .u8) (.pair (.int .i64) (.pair (.sl (.sl (.int .u8))) (.int .i64))))) 3)))), (30, .bool true), (29, .bool true), (28, .pointer (some ((⟨b_1, 0, .none⟩ : Addr).add (coff (.pair .bool (.pair (.int .u8) (.pair (.int .i64) (.pair (.sl (.sl (.int .u8))) (.int .i64))))) 0)))), (7, .bool q_17), (2, .pointer (some (⟨b_5, 0, .none⟩ : Addr))), (1, .pointer (some (⟨b_1, 0, .none⟩ : Addr)))]) S tys tys_ok 2 (by kernel_rfl) ?_
            clear S; intro a S
            obtain rfl := Option.some.inj eq_33
            exact ⟨rfl, S.sub (by exact ⟨rfl, rfl, rfl, rfl, trivial⟩)⟩
          · rw [if_neg hc] at eq_33; rw [show (decide ((lenI x0.2.2.2.1) > 0)) = true from (by simpa using hc)] at S
            refine wl_pure (l' := [(39, .bool true), (38, undef), (37, undef), (36, undef), (35, .bool true), (34, .bool true), (33, .int .i64 (lenI x0.2.2.2.1)), (32, v_30), (31, .pointer (some ((⟨b_1, 0, .none⟩ : Addr).add (coff (.pair .bool (.pair (.int .u8) (.pair (.int .i64) (.pair (.sl (.sl (.int .u8))) (.int .i64))))) 3)))), (30, .bool true), (29, .bool true), (28, .pointer (some ((⟨b_1, 0, .none⟩ : Addr).add (coff (.pair .bool (.pair (.int .u8) (.pair (.int .i64) (.pair (.sl (.sl (.int .u8))) (.int .i64))))) 0)))), (7, .bool q_17), (2, .pointer (some (⟨b_5, 0, .none⟩ : Addr))), (1, .pointer (some (⟨b_1, 0, .none⟩ : Addr)))]) S tys tys_ok 4 (by kernel_rfl) ?_
            clear S; intro a S
            obtain rfl := Option.some.inj eq_33
            exact ⟨rfl, S.sub (by exact ⟨rfl, rfl, rfl, rfl, trivial⟩)⟩
        clear S eq_33; rintro a _ ⟨rfl, S⟩
        refine wl_pure (l' := [(40, .bool q_33), (39, .bool q_33), (30, .bool true), (2, .pointer (some (⟨b_5, 0, .none⟩ : Addr))), (1, .pointer (some (⟨b_1, 0, .none⟩ : Addr)))]) S tys tys_ok 1 (by kernel_rfl) ?_
        clear S; intro a S
        obtain rfl := Option.some.inj eq_29
        exact ⟨rfl, S.sub (by exact ⟨rfl, rfl, rfl, trivial⟩)⟩
      · rw [if_neg hc] at eq_29; rw [show x0.1 = false from Bool.eq_false_iff.2 hc] at S
        refine wl_pure (l' := [(40, .bool false), (39, undef), (38, undef), (37, undef), (36, undef), (35, undef), (34, undef), (33, undef), (32, undef), (31, undef), (30, .bool false), (29, .bool false), (28, .pointer (some ((⟨b_1, 0, .none⟩ : Addr).add (coff (.pair .bool (.pair (.int .u8) (.pair (.int .i64) (.pair (.sl (.sl (.int .u8))) (.int .i64))))) 0)))), (7, .bool q_17), (2, .pointer (some (⟨b_5, 0, .none⟩ : Addr))), (1, .pointer (some (⟨b_1, 0, .none⟩ : Addr)))]) S tys tys_ok 10 (by kernel_rfl) ?_
        clear S; intro a S
        obtain rfl := Option.some.inj eq_29
        exact ⟨rfl, S.sub (by exact ⟨rfl, rfl, rfl, trivial⟩)⟩
    clear S eq_29; rintro a _ ⟨rfl, S⟩
    refine wl_pure (l' := [(41, .bool q_29), (40, .bool q_29), (2, .pointer (some (⟨b_5, 0, .none⟩ : Addr))), (1, .pointer (some (⟨b_1, 0, .none⟩ : Addr)))]) S tys tys_ok 1 (by kernel_rfl) ?_
    clear S; intro a S
    obtain ⟨q_36, eq_36, h⟩ := bindS h
    refine seg 15 (fun a_ w_ => w_7 = w_ ∧ St 103 a_ [(56, .bool q_36), (2, .pointer (some (⟨b_5, 0, .none⟩ : Addr))), (1, .pointer (some (⟨b_1, 0, .none⟩ : Addr)))]) ?_ ?_
    · by_cases hc : q_29 = false
      · rw [if_pos hc] at eq_36; rw [hc] at S
        refine wl_pure (l' := [(42, .pointer (some ((⟨b_1, 0, .none⟩ : Addr).add (coff (.pair .bool (.pair (.int .u8) (.pair (.int .i64) (.pair (.sl (.sl (.int .u8))) (.int .i64))))) 0)))), (41, .bool false), (40, .bool false), (2, .pointer (some (⟨b_5, 0, .none⟩ : Addr))), (1, .pointer (some (⟨b_1, 0, .none⟩ : Addr)))]) S tys tys_ok 1 (by kernel_rfl) ?_
        clear S; intro a S
        refine w_go S rfl (op_load (t := .bool) (x := x0.1) S rfl ty4 rfl rfl rfl (RepAt.add 0 (RepAt.st (t := (.pair .bool (.pair (.int .u8) (.pair (.int .i64) (.pair (.sl (.sl (.int .u8))) (.int .i64)))))) B_2.at_)) ?_)
        clear S; intro a v_37 R_38 S
        obtain rfl := RepV.bool R_38
        refine wl_pure (l' := [(45, .bool (!x0.1)), (44, .bool (!x0.1)), (43, .bool x0.1), (42, .pointer (some ((⟨b_1, 0, .none⟩ : Addr).add (coff (.pair .bool (.pair (.int .u8) (.pair (.int .i64) (.pair (.sl (.sl (.int .u8))) (.int .i64))))) 0)))), (41, .bool false), (40, .bool false), (2, .pointer (some (⟨b_5, 0, .none⟩ : Addr))), (1, .pointer (some (⟨b_1, 0, .none⟩ : Addr)))]) S tys tys_ok 2 (by kernel_rfl) ?_
        clear S; intro a S
        obtain ⟨q_39, eq_39, eq_36⟩ := bindS eq_36
        refine seg 10 (fun a_ w_ => w_7 = w_ ∧ St 103 a_ [(55, .bool q_39), (41, .bool false), (2, .pointer (some (⟨b_5, 0, .none⟩ : Addr))), (1, .pointer (some (⟨b_1, 0, .none⟩ : Addr)))]) ?_ ?_
        · by_cases hc : (!x0.1) = true
          · rw [if_pos hc] at eq_39; rw [hc] at S
            refine wl_pure (l' := [(46, .pointer (some ((⟨b_1, 0, .none⟩ : Addr).add (coff (.pair .bool (.pair (.int .u8) (.pair (.int .i64) (.pair (.sl (.sl (.int .u8))) (.int .i64))))) 3)))), (45, .bool true), (44, .bool true), (43, .bool x0.1), (42, .pointer (some ((⟨b_1, 0, .none⟩ : Addr).add (coff (.pair .bool (.pair (.int .u8) (.pair (.int .i64) (.pair (.sl (.sl (.int .u8))) (.int .i64))))) 0)))), (41, .bool false), (40, .bool false), (2, .pointer (some (⟨b_5, 0, .none⟩ : Addr))), (1, .pointer (some (⟨b_1, 0, .none⟩ : Addr)))]) S tys tys_ok 1 (by kernel_rfl) ?_
            clear S; intro a S
            refine w_go S rfl (op_load (t := (.sl (.sl (.int .u8)))) (x := x0.2.2.2.1) S rfl ty40 rfl rfl rfl (RepAt.add 3 (RepAt.st (t := (.pair .bool (.pair (.int .u8) (.pair (.int .i64) (.pair (.sl (.sl (.int .u8))) (.int .i64)))))) B_2.at_)) ?_)
            clear S; intro a v_40 R_41 S
            refine w_go S rfl (op_len (K := _) S rfl ty40 rfl rfl rfl R_41 ?_)
            clear S; intro a G_42 S
            refine wl_pure (l' := [(50, .bool ((lenI x0.2.2.2.1) == 0)), (49, .bool ((lenI x0.2.2.2.1) == 0)), (48, .int .i64 (lenI x0.2.2.2.1)), (47, v_40), (46, .pointer (some ((⟨b_1, 0, .none⟩ : Addr).add (coff (.pair .bool (.pair (.int .u8) (.pair (.int .i64) (.pair (.sl (.sl (.int .u8))) (.int .i64))))) 3)))), (45, .bool true), (44, .bool true), (43, .bool x0.1), (42, .pointer (some ((⟨b_1, 0, .none⟩ : Addr).add (coff (.pair .bool (.pair (.int .u8) (.pair (.int .i64) (.pair (.sl (.sl (.int .u8))) (.int .i64))))) 0)))), (41, .bool false), (40, .bool false), (2, .pointer (some (⟨b_5, 0, .none⟩ : Addr))), (1, .pointer (some (⟨b_1, 0, .none⟩ : Addr)))]) S tys tys_ok 2 (by kernel_rfl) ?_
            clear S; intro a S
            obtain ⟨q_43, eq_43, eq_39⟩ := bindS eq_39
            refine seg 4 (fun a_ w_ => w_7 = w_ ∧ St 103 a_ [(54, .bool q_43), (45, .bool true), (41, .bool false), (2, .pointer (some (⟨b_5, 0, .none⟩ : Addr))), (1, .pointer (some (⟨b_1, 0, .none⟩ : Addr)))]) ?_ ?_
            · by_cases hc : ((lenI x0.2.2.2.1) == 0) = false
              · rw [if_pos hc] at eq_43; rw [hc] at S
                refine wl_pure (l' := [(51, .pointer (some ((⟨b_1, 0, .none⟩ : Addr).add (coff (.pair .bool (.pair (.int .u8) (.pair (.int .i64) (.pair (.sl (.sl (.int .u8))) (.int .i64))))) 4)))), (50, .bool false), (49, .bool false), (48, .int .i64 (lenI x0.2.2.2.1)), (47, v_40), (46, .pointer (some ((⟨b_1, 0, .none⟩ : Addr).add (coff (.pair .bool (.pair (.int .u8) (.pair (.int .i64) (.pair (.sl (.sl (.int .u8))) (.int .i64))))) 3)))), (45, .bool true), (44, .bool true), (43, .bool x0.1), (42, .pointer (some ((⟨b_1, 0, .none⟩ : Addr).add (coff (.pair .bool (.pair (.int .u8) (.pair (.int .i64) (.pair (.sl (.sl (.int .u8))) (.int .i64))))) 0)))), (41, .bool false), (40, .bool false), (2, .pointer (some (⟨b_5, 0, .none⟩ : Addr))), (1, .pointer (some (⟨b_1, 0, .none⟩ : Addr)))]) S tys tys_ok 1 (by kernel_rfl) ?_
                clear S; intro a S
                refine w_go S rfl (op_load (t := (.int .i64)) (x := x0.2.2.2.2) S rfl ty3 rfl rfl rfl (RepAt.add 4 (RepAt.st (t := (.pair .bool (.pair (.int .u8) (.pair (.int .i64) (.pair (.sl (.sl (.int .u8))) (.int .i64)))))) B_2.at_)) ?_)
                clear S; intro a v_44 R_45 S
                obtain ⟨rfl, GR_45⟩ := RepV.int R_45
                refine wl_pure (l' := [(54, .bool (x0.2.2.2.2 != 0)), (53, .bool (x0.2.2.2.2 != 0)), (52, .int .i64 x0.2.2.2.2), (51, .pointer (some ((⟨b_1, 0, .none⟩ : Addr).add (coff (.pair .bool (.pair (.int .u8) (.pair (.int .i64) (.pair (.sl (.sl (.int .u8))) (.int .i64))))) 4)))), (50, .bool false), (49, .bool false), (48, .int .i64 (lenI x0.2.2.2.1)), (47, v_40), (46, .pointer (some ((⟨b_1, 0, .none⟩ : Addr).add (coff (.pair .bool (.pair (.int .u8) (.pair (.int .i64) (.pair (.sl (.sl (.int .u8))) (.int .i64))))) 3)))), (45, .bool true), (44, .bool true), (43, .bool x0.1), (42, .pointer (some ((⟨b_1, 0, .none⟩ : Addr).add (coff (.pair .bool (.pair (.int .u8) (.pair (.int .i64) (.pair (.sl (.sl (.int .u8))) (.int .i64))))) 0)))), (41, .bool false), (40, .bool false), (2, .pointer (some (⟨b_5, 0, .none⟩ : Addr))), (1, .pointer (some (⟨b_1, 0, .none⟩ : Addr)))]) S tys tys_ok 2 (by kernel_rfl) ?_
                clear S; intro a S
                obtain rfl := Option.some.inj eq_43
                exact ⟨rfl, S.sub (by exact ⟨rfl, rfl, rfl, rfl, rfl, trivial⟩)⟩
              · rw [if_neg hc] at eq_43; rw [show ((lenI x0.2.2.2.1) == 0) = true from (by simpa using hc)] at S
                refine wl_pure (l' := [(54, .bool true), (53, undef), (52, undef), (51, undef), (50, .bool true), (49, .bool true), (48, .int .i64 (lenI x0.2.2.2.1)), (47, v_40), (46, .pointer (some ((⟨b_1, 0, .none⟩ : Addr).add (coff (.pair .bool (.pair (.int .u8) (.pair (.int .i64) (.pair (.sl (.sl (.int .u8))) (.int .i64))))) 3)))), (45, .bool true), (44, .bool true), (43, .bool x0.1), (42, .pointer (some ((⟨b_1, 0, .none⟩ : Addr).add (coff (.pair .bool (.pair (.int .u8) (.pair (.int .i64) (.pair (.sl (.sl (.int .u8))) (.int .i64))))) 0)))), (41, .bool false), (40, .bool false), (2, .pointer (some (⟨b_5, 0, .none⟩ : Addr))), (1, .pointer (some (⟨b_1, 0, .none⟩ : Addr)))]) S tys tys_ok 4 (by kernel_rfl) ?_
                clear S; intro a S
                obtain rfl := Option.some.inj eq_43
                exact ⟨rfl, S.sub (by exact ⟨rfl, rfl, rfl, rfl, rfl, trivial⟩)⟩
            clear S eq_43; rintro a _ ⟨rfl, S⟩
            refine wl_pure (l' := [(55, .bool q_43), (54, .bool q_43), (45, .bool true), (41, .bool false), (2, .pointer (some (⟨b_5, 0, .none⟩ : Addr))), (1, .pointer (some (⟨b_1, 0, .none⟩ : Addr)))]) S tys tys_ok 1 (by kernel_rfl) ?_
            clear S; intro a S
            obtain rfl := Option.some.inj eq_39
            exact ⟨rfl, S.sub (by exact ⟨rfl, rfl, rfl, rfl, trivial⟩)⟩
          · rw [if_neg hc] at eq_39; rw [show (!x0.1) = false from Bool.eq_false_iff.2 hc] at S
            refine wl_pure (l' := [(55, .bool false), (54, undef), (53, undef), (52, undef), (51, undef), (50, undef), (49, undef), (48, undef), (47, undef), (46, undef), (45, .bool false), (44, .bool false), (43, .bool x0.1), (42, .pointer (some ((⟨b_1, 0, .none⟩ : Addr).add (coff (.pair .bool (.pair (.int .u8) (.pair (.int .i64) (.pair (.sl (.sl (.int .u8))) (.int .i64))))) 0)))), (41, .bool false), (40, .bool false), (2, .pointer (some (⟨b_5, 0, .none⟩ : Addr))), (1, .pointer (some (⟨b_1, 0, .none⟩ : Addr)))]) S tys tys_ok 10 (by kernel_rfl) ?_
            clear S; intro a S
            obtain rfl := Option.some.inj eq_39
            exact ⟨rfl, S.sub (by exact ⟨rfl, rfl, rfl, rfl, trivial⟩)⟩
        clear S eq_39; rintro a _ ⟨rfl, S⟩
        refine wl_pure (l' := [(56, .bool q_39), (55, .bool q_39), (41, .bool false), (2, .pointer (some (⟨b_5, 0, .none⟩ : Addr))), (1, .pointer (some (⟨b_1, 0, .none⟩ : Addr)))]) S tys tys_ok 1 (by kernel_rfl) ?_
        clear S; intro a S
        obtain rfl := Option.some.inj eq_36
        exact ⟨rfl, S.sub (by exact ⟨rfl, rfl, rfl, trivial⟩)⟩
      · rw [if_neg hc] at eq_36; rw [show q_29 = true from (by simpa using hc)] at S
        refine wl_pure (l' := [(56, .bool true), (55, undef), (54, undef), (53, undef), (52, undef), (51, undef), (50, undef), (49, undef), (48, undef), (47, undef), (46, undef), (45, undef), (44, undef), (43, undef), (42, undef), (41, .bool true), (40, .bool true), (2, .pointer (some (⟨b_5, 0, .none⟩ : Addr))), (1, .pointer (some (⟨b_1, 0, .none⟩ : Addr)))]) S tys tys_ok 15 (by kernel_rfl) ?_
        clear S; intro a S
        obtain rfl := Option.some.inj eq_36
        exact ⟨rfl, S.sub (by exact ⟨rfl, rfl, rfl, trivial⟩)⟩
    clear S eq_36; rintro a _ ⟨rfl, S⟩
    refine wl_pure (l' := [(27, .bool q_36), (56, .bool q_36), (2, .pointer (some (⟨b_5, 0, .none⟩ : Addr))), (1, .pointer (some (⟨b_1, 0, .none⟩ : Addr)))]) S tys tys_ok 1 (by kernel_rfl) ?_
    clear S; intro a S
    refine wpList_nil ?_
    refine then_n ?_
    replace S := S.sub (l' := [(27, .bool q_36), (2, .pointer (some (⟨b_5, 0, .none⟩ : Addr))), (1, .pointer (some (⟨b_1, 0, .none⟩ : Addr)))]) (by exact ⟨rfl, rfl, rfl, trivial⟩)
    refine wp_cond_split (S.eval (show ev _ _ = some (.bool q_36) from rfl)) ?_ ?_
    · intro hc
      rw [if_pos hc] at h
      refine wp_seq ?_
      refine wp_region_lit ?_
      refine w_go S rfl (op_build (K := (Kx K w.heap.size [some b_5, some b_1])) (f := (.pair (.st (.pair .bool (.pair (.int .u8) (.pair (.int .i64) (.pair (.sl (.sl (.int .u8))) (.int .i64)))))) (.pair (.int .i64) (.sl (.st (.pair (.int .i64) (.sl (.int .u8)))))))) (z0 := ((false, 0, 0, ⟨[], some 0⟩, 0), 0, ⟨[], some 0⟩)) (x := ((false, 0, 0, ⟨[], some 0⟩, 0), 0, ⟨[], some 0⟩)) (vs := []) S _ rfl ty47 z47 (fun w K => ⟨[.bool false, .int .u8 0, .int .i64 0, .slice .none 0 0, .int .i64 0], [.int .i64 0, .slice .none 0 0], rfl, ⟨[.bool false], [.int .u8 0, .int .i64 0, .slice .none 0 0, .int .i64 0], rfl, rfl, ⟨[.int .u8 0], [.int .i64 0, .slice .none 0 0, .int .i64 0], rfl, ⟨rfl, by decide⟩, ⟨[.int .i64 0], [.slice .none 0 0, .int .i64 0], rfl, ⟨rfl, by decide⟩, ⟨[.slice .none 0 0], [.int .i64 0], rfl, ⟨.none, 0, 0, rfl, rfl, Nat.le_refl _, by decide, fun k h => Option.some.inj h, .inl rfl⟩, ⟨rfl, by decide⟩⟩⟩⟩⟩, ⟨[.int .i64 0], [.slice .none 0 0], rfl, ⟨rfl, by decide⟩, ⟨.none, 0, 0, rfl, rfl, Nat.le_refl _, by decide, fun k h => Option.some.inj h, .inl rfl⟩⟩⟩) rfl rfl rfl [] rfl rfl ?_)
      clear S; intro a v_46 R_47 S
      replace B_6 : Bx (.st (.pair (.st (.pair .bool (.pair (.int .u8) (.pair (.int .i64) (.pair (.sl (.sl (.int .u8))) (.int .i64)))))) (.pair (.int .i64) (.sl (.st (.pair (.int .i64) (.sl (.int .u8)))))))) 47 w_7 (Kx K w.heap.size [some b_5, some b_1]) b_5 ((false, 0, 0, (⟨[], some 0⟩ : Sl (Sl (Int))), 0), 0, ⟨[], some 0⟩) := Bx.unrawX (t' := (.st (.pair (.st (.pair .bool (.pair (.int .u8) (.pair (.int .i64) (.pair (.sl (.sl (.int .u8))) (.int .i64)))))) (.pair (.int .i64) (.sl (.st (.pair (.int .i64) (.sl (.int .u8))))))))) (Lx.st (Lx.left (Lx.st (Lx.right (Lx.right (Lx.right (Lx.left Lx.here))))))) B_6 RepV.nil
      refine w_go S rfl (op_store (t' := (.st (.pair (.st (.pair .bool (.pair (.int .u8) (.pair (.int .i64) (.pair (.sl (.sl (.int .u8))) (.int .i64)))))) (.pair (.int .i64) (.sl (.st (.pair (.int .i64) (.sl (.int .u8))))))))) S rfl rfl ty47 rfl rfl rfl B_6 (by simp) Ln.whole R_47 ?_)
      intro w_48 hw_49 B_
      replace R_47 := R_47.wrote hw_49 (by simp)
      replace B_2 := B_2.wrote hw_49 (by simp) (W.bne (p := 1) (q := 0) (by decide) rfl rfl)
      replace W := W.wrote hw_49 (by simp)
      replace B_6 : Bx (.st (.pair (.st (.pair .bool (.pair (.int .u8) (.pair (.int .i64) (.pair (.sl (.sl (.int .u8))) (.int .i64)))))) (.pair (.int .i64) (.sl (.st (.pair (.int .i64) (.sl (.int .u8)))))))) 47 w_48 (Kx K w.heap.size [some b_5, some b_1]) b_5 ((false, 0, 0, ⟨[], some 0⟩, 0), 0, ⟨[], some 0⟩) := B_; clear B_
      refine wl_pure (l' := [(3, .int .i64 1), (57, v_46), (27, .bool q_36), (2, .pointer (some (⟨b_5, 0, .none⟩ : Addr))), (1, .pointer (some (⟨b_1, 0, .none⟩ : Addr)))]) S tys tys_ok 1 (by kernel_rfl) ?_
      clear S; intro a S
      refine wpList_nil ?_
      refine then_n ?_
      replace S := S.sub (l' := [(3, .int .i64 1), (2, .pointer (some (⟨b_5, 0, .none⟩ : Addr)))]) (by exact ⟨rfl, rfl, trivial⟩)
      refine wp_ret ?_
      refine blk_r ?_
      refine then_r ?_
      obtain ⟨v_50, hr_51, R_52⟩ := res_cell (P := Try.prog) (T := 47) (t := (.st (.pair (.st (.pair .bool (.pair (.int .u8) (.pair (.int .i64) (.pair (.sl (.sl (.int .u8))) (.int .i64)))))) (.pair (.int .i64) (.sl (.st (.pair (.int .i64) (.sl (.int .u8))))))))) (x := ((false, 0, 0, ⟨[], some 0⟩, 0), 0, ⟨[], some 0⟩)) S (s := 2) rfl ty47 B_6.at_
      obtain rfl := Option.some.inj h
      exact b_res2 S rfl hr_51 (res_tmp S rfl) ⟨_, _, rfl, R_52.out, (RepV.mkInt (by decide)), W.below⟩
    · intro hc
      rw [if_neg (Bool.eq_false_iff.1 hc)] at h
      refine wp_seq ?_
      refine wp_region_lit ?_
      refine wl_pure (l' := [(59, .pointer (some ((⟨b_1, 0, .none⟩ : Addr).add (coff (.pair .bool (.pair (.int .u8) (.pair (.int .i64) (.pair (.sl (.sl (.int .u8))) (.int .i64))))) 4)))), (27, .bool q_36), (2, .pointer (some (⟨b_5, 0, .none⟩ : Addr))), (1, .pointer (some (⟨b_1, 0, .none⟩ : Addr)))]) S tys tys_ok 1 (by kernel_rfl) ?_
      clear S; intro a S
      refine w_go S rfl (op_load (t := (.int .i64)) (x := x0.2.2.2.2) S rfl ty3 rfl rfl rfl (RepAt.add 4 (RepAt.st (t := (.pair .bool (.pair (.int .u8) (.pair (.int .i64) (.pair (.sl (.sl (.int .u8))) (.int .i64)))))) B_2.at_)) ?_)
      clear S; intro a v_53 R_54 S
      obtain ⟨rfl, GR_54⟩ := RepV.int R_54
      refine wl_pure (l' := [(62, .bool (decide (x0.2.2.2.2 > 256))), (61, .bool (decide (x0.2.2.2.2 > 256))), (60, .int .i64 x0.2.2.2.2), (59, .pointer (some ((⟨b_1, 0, .none⟩ : Addr).add (coff (.pair .bool (.pair (.int .u8) (.pair (.int .i64) (.pair (.sl (.sl (.int .u8))) (.int .i64))))) 4)))), (27, .bool q_36), (2, .pointer (some (⟨b_5, 0, .none⟩ : Addr))), (1, .pointer (some (⟨b_1, 0, .none⟩ : Addr)))]) S tys tys_ok 2 (by kernel_rfl) ?_
      clear S; intro a S
      obtain ⟨q_55, eq_55, h⟩ := bindS h
      refine seg 5 (fun a_ w_ => w_7 = w_ ∧ St 103 a_ [(67, .bool q_55), (2, .pointer (some (⟨b_5, 0, .none⟩ : Addr))), (1, .pointer (some (⟨b_1, 0, .none⟩ : Addr)))]) ?_ ?_
      · by_cases hc : (decide (x0.2.2.2.2 > 256)) = false
        · rw [if_pos hc] at eq_55; rw [hc] at S
          refine wl_pure (l' := [(63, .pointer (some ((⟨b_1, 0, .none⟩ : Addr).add (coff (.pair .bool (.pair (.int .u8) (.pair (.int .i64) (.pair (.sl (.sl (.int .u8))) (.int .i64))))) 3)))), (62, .bool false), (61, .bool false), (60, .int .i64 x0.2.2.2.2), (59, .pointer (some ((⟨b_1, 0, .none⟩ : Addr).add (coff (.pair .bool (.pair (.int .u8) (.pair (.int .i64) (.pair (.sl (.sl (.int .u8))) (.int .i64))))) 4)))), (27, .bool q_36), (2, .pointer (some (⟨b_5, 0, .none⟩ : Addr))), (1, .pointer (some (⟨b_1, 0, .none⟩ : Addr)))]) S tys tys_ok 1 (by kernel_rfl) ?_
          clear S; intro a S
          refine w_go S rfl (op_load (t := (.sl (.sl (.int .u8)))) (x := x0.2.2.2.1) S rfl ty40 rfl rfl rfl (RepAt.add 3 (RepAt.st (t := (.pair .bool (.pair (.int .u8) (.pair (.int .i64) (.pair (.sl (.sl (.int .u8))) (.int .i64)))))) B_2.at_)) ?_)
          clear S; intro a v_56 R_57 S
          refine w_go S rfl (op_len (K := _) S rfl ty40 rfl rfl rfl R_57 ?_)
          clear S; intro a G_58 S
          refine wl_pure (l' := [(67, .bool (decide ((lenI x0.2.2.2.1) > 256))), (66, .bool (decide ((lenI x0.2.2.2.1) > 256))), (65, .int .i64 (lenI x0.2.2.2.1)), (64, v_56), (63, .pointer (some ((⟨b_1, 0, .none⟩ : Addr).add (coff (.pair .bool (.pair (.int .u8) (.pair (.int .i64) (.pair (.sl (.sl (.int .u8))) (.int .i64))))) 3)))), (62, .bool false), (61, .bool false), (60, .int .i64 x0.2.2.2.2), (59, .pointer (some ((⟨b_1, 0, .none⟩ : Addr).add (coff (.pair .bool (.pair (.int .u8) (.pair (.int .i64) (.pair (.sl (.sl (.int .u8))) (.int .i64))))) 4)))), (27, .bool q_36), (2, .pointer (some (⟨b_5, 0, .none⟩ : Addr))), (1, .pointer (some (⟨b_1, 0, .none⟩ : Addr)))]) S tys tys_ok 2 (by kernel_rfl) ?_
          clear S; intro a S
          obtain rfl := Option.some.inj eq_55
          exact ⟨rfl, S.sub (by exact ⟨rfl, rfl, rfl, trivial⟩)⟩
        · rw [if_neg hc] at eq_55; rw [show (decide (x0.2.2.2.2 > 256)) = true from (by simpa using hc)] at S
          refine wl_pure (l' := [(67, .bool true), (66, undef), (65, undef), (64, undef), (63, undef), (62, .bool true), (61, .bool true), (60, .int .i64 x0.2.2.2.2), (59, .pointer (some ((⟨b_1, 0, .none⟩ : Addr).add (coff (.pair .bool (.pair (.int .u8) (.pair (.int .i64) (.pair (.sl (.sl (.int .u8))) (.int .i64))))) 4)))), (27, .bool q_36), (2, .pointer (some (⟨b_5, 0, .none⟩ : Addr))), (1, .pointer (some (⟨b_1, 0, .none⟩ : Addr)))]) S tys tys_ok 5 (by kernel_rfl) ?_
          clear S; intro a S
          obtain rfl := Option.some.inj eq_55
          exact ⟨rfl, S.sub (by exact ⟨rfl, rfl, rfl, trivial⟩)⟩
      clear S eq_55; rintro a _ ⟨rfl, S⟩
      refine wl_pure (l' := [(58, .bool q_55), (67, .bool q_55), (2, .pointer (some (⟨b_5, 0, .none⟩ : Addr))), (1, .pointer (some (⟨b_1, 0, .none⟩ : Addr)))]) S tys tys_ok 1 (by kernel_rfl) ?_
      clear S; intro a S
      refine wpList_nil ?_
      refine then_n ?_
      replace S := S.sub (l' := [(58, .bool q_55), (2, .pointer (some (⟨b_5, 0, .none⟩ : Addr))), (1, .pointer (some (⟨b_1, 0, .none⟩ : Addr)))]) (by exact ⟨rfl, rfl, rfl, trivial⟩)
      refine wp_cond_split (S.eval (show ev _ _ = some (.bool q_55) from rfl)) ?_ ?_
      · intro hc
        rw [if_pos hc] at h
        refine wp_seq ?_
        refine wp_region_lit ?_
        refine w_go S rfl (op_build (K := (Kx K w.heap.size [some b_5, some b_1])) (f := (.pair (.st (.pair .bool (.pair (.int .u8) (.pair (.int .i64) (.pair (.sl (.sl (.int .u8))) (.int .i64)))))) (.pair (.int .i64) (.sl (.st (.pair (.int .i64) (.sl (.int .u8)))))))) (z0 := ((false, 0, 0, ⟨[], some 0⟩, 0), 0, ⟨[], some 0⟩)) (x := ((false, 0, 0, ⟨[], some 0⟩, 0), 0, ⟨[], some 0⟩)) (vs := []) S _ rfl ty47 z47 (fun w K => ⟨[.bool false, .int .u8 0, .int .i64 0, .slice .none 0 0, .int .i64 0], [.int .i64 0, .slice .none 0 0], rfl, ⟨[.bool false], [.int .u8 0, .int .i64 0, .slice .none 0 0, .int .i64 0], rfl, rfl, ⟨[.int .u8 0], [.int .i64 0, .slice .none 0 0, .int .i64 0], rfl, ⟨rfl, by decide⟩, ⟨[.int .i64 0], [.slice .none 0 0, .int .i64 0], rfl, ⟨rfl, by decide⟩, ⟨[.slice .none 0 0], [.int .i64 0], rfl, ⟨.none, 0, 0, rfl, rfl, Nat.le_refl _, by decide, fun k h => Option.some.inj h, .inl rfl⟩, ⟨rfl, by decide⟩⟩⟩⟩⟩, ⟨[.int .i64 0], [.slice .none 0 0], rfl, ⟨rfl, by decide⟩, ⟨.none, 0, 0, rfl, rfl, Nat.le_refl _, by decide, fun k h => Option.some.inj h, .inl rfl⟩⟩⟩) rfl rfl rfl [] rfl rfl ?_)
        clear S; intro a v_59 R_60 S
        replace B_6 : Bx (.st (.pair (.st (.pair .bool (.pair (.int .u8) (.pair (.int .i64) (.pair (.sl (.sl (.int .u8))) (.int .i64)))))) (.pair (.int .i64) (.sl (.st (.pair (.int .i64) (.sl (.int .u8)))))))) 47 w_7 (Kx K w.heap.size [some b_5, some b_1]) b_5 ((false, 0, 0, (⟨[], some 0⟩ : Sl (Sl (Int))), 0), 0, ⟨[], some 0⟩) := Bx.unrawX (t' := (.st (.pair (.st (.pair .bool (.pair (.int .u8) (.pair (.int .i64) (.pair (.sl (.sl (.int .u8))) (.int .i64)))))) (.pair (.int .i64) (.sl (.st (.pair (.int .i64) (.sl (.int .u8))))))))) (Lx.st (Lx.left (Lx.st (Lx.right (Lx.right (Lx.right (Lx.left Lx.here))))))) B_6 RepV.nil
        refine w_go S rfl (op_store (t' := (.st (.pair (.st (.pair .bool (.pair (.int .u8) (.pair (.int .i64) (.pair (.sl (.sl (.int .u8))) (.int .i64)))))) (.pair (.int .i64) (.sl (.st (.pair (.int .i64) (.sl (.int .u8))))))))) S rfl rfl ty47 rfl rfl rfl B_6 (by simp) Ln.whole R_60 ?_)
        intro w_61 hw_62 B_
        replace R_60 := R_60.wrote hw_62 (by simp)
        replace B_2 := B_2.wrote hw_62 (by simp) (W.bne (p := 1) (q := 0) (by decide) rfl rfl)
        replace W := W.wrote hw_62 (by simp)
        replace B_6 : Bx (.st (.pair (.st (.pair .bool (.pair (.int .u8) (.pair (.int .i64) (.pair (.sl (.sl (.int .u8))) (.int .i64)))))) (.pair (.int .i64) (.sl (.st (.pair (.int .i64) (.sl (.int .u8)))))))) 47 w_61 (Kx K w.heap.size [some b_5, some b_1]) b_5 ((false, 0, 0, ⟨[], some 0⟩, 0), 0, ⟨[], some 0⟩) := B_; clear B_
        refine wl_pure (l' := [(3, .int .i64 3), (68, v_59), (58, .bool q_55), (2, .pointer (some (⟨b_5, 0, .none⟩ : Addr))), (1, .pointer (some (⟨b_1, 0, .none⟩ : Addr)))]) S tys tys_ok 1 (by kernel_rfl) ?_
        clear S; intro a S
        refine wpList_nil ?_
        refine then_n ?_
        replace S := S.sub (l' := [(3, .int .i64 3), (2, .pointer (some (⟨b_5, 0, .none⟩ : Addr)))]) (by exact ⟨rfl, rfl, trivial⟩)
        refine wp_ret ?_
        refine blk_r ?_
        refine then_r ?_
        obtain ⟨v_63, hr_64, R_65⟩ := res_cell (P := Try.prog) (T := 47) (t := (.st (.pair (.st (.pair .bool (.pair (.int .u8) (.pair (.int .i64) (.pair (.sl (.sl (.int .u8))) (.int .i64)))))) (.pair (.int .i64) (.sl (.st (.pair (.int .i64) (.sl (.int .u8))))))))) (x := ((false, 0, 0, ⟨[], some 0⟩, 0), 0, ⟨[], some 0⟩)) S (s := 2) rfl ty47 B_6.at_
        obtain rfl := Option.some.inj h
        exact b_res2 S rfl hr_64 (res_tmp S rfl) ⟨_, _, rfl, R_65.out, (RepV.mkInt (by decide)), W.below⟩
      · intro hc
        rw [if_neg (Bool.eq_false_iff.1 hc)] at h
        refine wp_skip ?_
        refine blk_n ?_
        refine then_n ?_
        replace S := S.sub (l' := [(2, .pointer (some (⟨b_5, 0, .none⟩ : Addr))), (1, .pointer (some (⟨b_1, 0, .none⟩ : Addr)))]) (by exact ⟨rfl, rfl, trivial⟩)
        refine wp_seq ?_
        refine wp_region_lit ?_
        refine w_go S rfl (op_load (t := (.st (.pair .bool (.pair (.int .u8) (.pair (.int .i64) (.pair (.sl (.sl (.int .u8))) (.int .i64))))))) (x := x0) S rfl ty42 rfl rfl rfl B_2.at_ ?_)
        clear S; intro a v_66 R_67 S
        refine wl_pure (l' := [(70, .pointer (some ((⟨b_1, 0, .none⟩ : Addr).add (coff (.pair .bool (.pair (.int .u8) (.pair (.int .i64) (.pair (.sl (.sl (.int .u8))) (.int .i64))))) 4)))), (69, v_66), (2, .pointer (some (⟨b_5, 0, .none⟩ : Addr))), (1, .pointer (some (⟨b_1, 0, .none⟩ : Addr)))]) S tys tys_ok 1 (by kernel_rfl) ?_
        clear S; intro a S
        refine w_go S rfl (op_load (t := (.int .i64)) (x := x0.2.2.2.2) S rfl ty3 rfl rfl rfl (RepAt.add 4 (RepAt.st (t := (.pair .bool (.pair (.int .u8) (.pair (.int .i64) (.pair (.sl (.sl (.int .u8))) (.int .i64)))))) B_2.at_)) ?_)
        clear S; intro a v_68 R_69 S
        obtain ⟨rfl, GR_69⟩ := RepV.int R_69
        refine wl_pure (l' := [(72, .pointer (some ((⟨b_1, 0, .none⟩ : Addr).add (coff (.pair .bool (.pair (.int .u8) (.pair (.int .i64) (.pair (.sl (.sl (.int .u8))) (.int .i64))))) 3)))), (71, .int .i64 x0.2.2.2.2), (70, .pointer (some ((⟨b_1, 0, .none⟩ : Addr).add (coff (.pair .bool (.pair (.int .u8) (.pair (.int .i64) (.pair (.sl (.sl (.int .u8))) (.int .i64))))) 4)))), (69, v_66), (2, .pointer (some (⟨b_5, 0, .none⟩ : Addr))), (1, .pointer (some (⟨b_1, 0, .none⟩ : Addr)))]) S tys tys_ok 1 (by kernel_rfl) ?_
        clear S; intro a S
        refine w_go S rfl (op_load (t := (.sl (.sl (.int .u8)))) (x := x0.2.2.2.1) S rfl ty40 rfl rfl rfl (RepAt.add 3 (RepAt.st (t := (.pair .bool (.pair (.int .u8) (.pair (.int .i64) (.pair (.sl (.sl (.int .u8))) (.int .i64)))))) B_2.at_)) ?_)
        clear S; intro a v_70 R_71 S
        refine w_go S rfl (op_len (K := _) S rfl ty40 rfl rfl rfl R_71 ?_)
        clear S; intro a G_72 S
        obtain ⟨x_73, ex_73, h⟩ := bindS h
        refine w_go S rfl (op_arith S .i64 (x0.2.2.2.2 + (lenI x0.2.2.2.1)) rfl (.inl rfl) rfl rfl rfl rfl ex_73 ?_)
        clear S; intro a S
        refine w_go S rfl (op_build (K := (Kx K w.heap.size [some b_5, some b_1])) (f := (.pair (.st (.pair .bool (.pair (.int .u8) (.pair (.int .i64) (.pair (.sl (.sl (.int .u8))) (.int .i64)))))) (.pair (.int .i64) (.sl (.st (.pair (.int .i64) (.sl (.int .u8)))))))) (z0 := ((false, 0, 0, ⟨[], some 0⟩, 0), 0, ⟨[], some 0⟩)) (x := (x0, x_73, ⟨[], some 0⟩)) (vs := [v_66, .int .i64 x_73]) S _ rfl ty47 z47 (fun w K => ⟨[.bool false, .int .u8 0, .int .i64 0, .slice .none 0 0, .int .i64 0], [.int .i64 0, .slice .none 0 0], rfl, ⟨[.bool false], [.int .u8 0, .int .i64 0, .slice .none 0 0, .int .i64 0], rfl, rfl, ⟨[.int .u8 0], [.int .i64 0, .slice .none 0 0, .int .i64 0], rfl, ⟨rfl, by decide⟩, ⟨[.int .i64 0], [.slice .none 0 0, .int .i64 0], rfl, ⟨rfl, by decide⟩, ⟨[.slice .none 0 0], [.int .i64 0], rfl, ⟨.none, 0, 0, rfl, rfl, Nat.le_refl _, by decide, fun k h => Option.some.inj h, .inl rfl⟩, ⟨rfl, by decide⟩⟩⟩⟩⟩, ⟨[.int .i64 0], [.slice .none 0 0], rfl, ⟨rfl, by decide⟩, ⟨.none, 0, 0, rfl, rfl, Nat.le_refl _, by decide, fun k h => Option.some.inj h, .inl rfl⟩⟩⟩) rfl rfl rfl [(0, v_66), (1, .int .i64 x_73)] rfl ⟨_, R_67, rfl, rfl, ⟨_, (RepV.mkInt (ckI_some ex_73).2.1), rfl, rfl, rfl⟩⟩ ?_)
        clear S; intro a v_74 R_75 S
        refine w_go S rfl (op_alloc (K := K) (n := w.heap.size) (L := [some b_5, some b_1]) (t := (.st (.pair (.st (.pair .bool (.pair (.int .u8) (.pair (.int .i64) (.pair .raw (.int .i64)))))) (.pair (.int .i64) (.sl (.st (.pair (.int .i64) (.sl (.int .u8))))))))) (y := ((false, 0, 0, (.slice .none 0 0), 0), 0, ⟨[], some 0⟩)) S rfl rfl rfl _ z47 (fun w K => ⟨[.bool false, .int .u8 0, .int .i64 0, .slice .none 0 0, .int .i64 0], [.int .i64 0, .slice .none 0 0], rfl, ⟨[.bool false], [.int .u8 0, .int .i64 0, .slice .none 0 0, .int .i64 0], rfl, rfl, ⟨[.int .u8 0], [.int .i64 0, .slice .none 0 0, .int .i64 0], rfl, ⟨rfl, by decide⟩, ⟨[.int .i64 0], [.slice .none 0 0, .int .i64 0], rfl, ⟨rfl, by decide⟩, ⟨[.slice .none 0 0], [.int .i64 0], rfl, ⟨rfl, _, _, _, rfl⟩, ⟨rfl, by decide⟩⟩⟩⟩⟩, ⟨[.int .i64 0], [.slice .none 0 0], rfl, ⟨rfl, by decide⟩, ⟨.none, 0, 0, rfl, rfl, Nat.le_refl _, by decide, fun k h => Option.some.inj h, .inl rfl⟩⟩⟩) ?_)
        clear S; intro a w_78 b_76 hb_79 B_77 S
        replace R_67 := R_67.box hb_79
        replace R_71 := R_71.box hb_79
        replace R_75 := R_75.box hb_79
        replace B_2 := B_2.box hb_79
        replace B_6 := B_6.box hb_79
        replace W := W.box hb_79
        replace B_77 : Bx (.st (.pair (.st (.pair .bool (.pair (.int .u8) (.pair (.int .i64) (.pair (.sl (.sl (.int .u8))) (.int .i64)))))) (.pair (.int .i64) (.sl (.st (.pair (.int .i64) (.sl (.int .u8)))))))) 47 w_78 (Kx K w.heap.size [some b_76, some b_5, some b_1]) b_76 ((false, 0, 0, (⟨[], some 0⟩ : Sl (Sl (Int))), 0), 0, ⟨[], some 0⟩) := Bx.unrawX (t' := (.st (.pair (.st (.pair .bool (.pair (.int .u8) (.pair (.int .i64) (.pair (.sl (.sl (.int .u8))) (.int .i64)))))) (.pair (.int .i64) (.sl (.st (.pair (.int .i64) (.sl (.int .u8))))))))) (Lx.st (Lx.left (Lx.st (Lx.right (Lx.right (Lx.right (Lx.left Lx.here))))))) B_77 RepV.nil
        refine w_go S rfl (op_store (t' := (.st (.pair (.st (.pair .bool (.pair (.int .u8) (.pair (.int .i64) (.pair (.sl (.sl (.int .u8))) (.int .i64)))))) (.pair (.int .i64) (.sl (.st (.pair (.int .i64) (.sl (.int .u8))))))))) S rfl rfl ty47 rfl rfl rfl B_77 (by simp) Ln.whole R_75 ?_)
        intro w_80 hw_81 B_
        replace R_67 := R_67.wrote hw_81 (by simp)
        replace R_71 := R_71.wrote hw_81 (by simp)
        replace R_75 := R_75.wrote hw_81 (by simp)
        replace B_2 := B_2.wrote hw_81 (by simp) (W.bne (p := 2) (q := 0) (by decide) rfl rfl)
        replace B_6 := B_6.wrote hw_81 (by simp) (W.bne (p := 1) (q := 0) (by decide) rfl rfl)
        replace W := W.wrote hw_81 (by simp)
        replace B_77 : Bx (.st (.pair (.st (.pair .bool (.pair (.int .u8) (.pair (.int .i64) (.pair (.sl (.sl (.int .u8))) (.int .i64)))))) (.pair (.int .i64) (.sl (.st (.pair (.int .i64) (.sl (.int .u8)))))))) 47 w_80 (Kx K w.heap.size [some b_76, some b_5, some b_1]) b_76 (x0, x_73, ⟨[], some 0⟩) := B_; clear B_
        refine wpList_nil ?_
        refine then_n ?_
        replace S := S.sub (l' := [(4, .pointer (some (⟨b_76, 0, .none⟩ : Addr))), (2, .pointer (some (⟨b_5, 0, .none⟩ : Addr))), (1, .pointer (some (⟨b_1, 0, .none⟩ : Addr)))]) (by exact ⟨rfl, rfl, rfl, trivial⟩)
        refine wp_seq ?_
        refine wp_region_lit ?_
        refine wl_pure (l' := [(78, .pointer (some (((⟨b_76, 0, .none⟩ : Addr).add (coff (.pair (.st (.pair .bool (.pair (.int .u8) (.pair (.int .i64) (.pair (.sl (.sl (.int .u8))) (.int .i64)))))) (.pair (.int .i64) (.sl (.st (.pair (.int .i64) (.sl (.int .u8))))))) 0)).add (coff (.pair .bool (.pair (.int .u8) (.pair (.int .i64) (.pair (.sl (.sl (.int .u8))) (.int .i64))))) 3)))), (77, .pointer (some ((⟨b_76, 0, .none⟩ : Addr).add (coff (.pair (.st (.pair .bool (.pair (.int .u8) (.pair (.int .i64) (.pair (.sl (.sl (.int .u8))) (.int .i64)))))) (.pair (.int .i64) (.sl (.st (.pair (.int .i64) (.sl (.int .u8))))))) 0)))), (4, .pointer (some (⟨b_76, 0, .none⟩ : Addr))), (2, .pointer (some (⟨b_5, 0, .none⟩ : Addr))), (1, .pointer (some (⟨b_1, 0, .none⟩ : Addr)))]) S tys tys_ok 2 (by kernel_rfl) ?_
        clear S; intro a S
        obtain ⟨vr_82, B_⟩ := Bx.toRawX (t' := (.st (.pair (.st (.pair .bool (.pair (.int .u8) (.pair (.int .i64) (.pair .raw (.int .i64)))))) (.pair (.int .i64) (.sl (.st (.pair (.int .i64) (.sl (.int .u8))))))))) (Lx.st (Lx.left (Lx.st (Lx.right (Lx.right (Lx.right (Lx.left Lx.here))))))) B_77
        replace B_77 : Bx (.st (.pair (.st (.pair .bool (.pair (.int .u8) (.pair (.int .i64) (.pair .raw (.int .i64)))))) (.pair (.int .i64) (.sl (.st (.pair (.int .i64) (.sl (.int .u8)))))))) 47 w_80 (Kx K w.heap.size [some b_76, some b_5, some b_1]) b_76 ((x0.1, x0.2.1, x0.2.2.1, vr_82, x0.2.2.2.2), x_73, ⟨[], some 0⟩) := B_; clear B_
        refine w_go S rfl (op_store (t' := .raw) S rfl rfl tyr40 rfl (addr_add2 _ _ _) rfl B_77 (by simp) (Ln.trans (Ln.st (Ln.comp 0)) (Ln.st (Ln.comp 3))) RepV.rawNil ?_)
        intro w_83 hw_84 B_
        replace B_2 := B_2.wrote hw_84 (by simp) (W.bne (p := 2) (q := 0) (by decide) rfl rfl)
        replace B_6 := B_6.wrote hw_84 (by simp) (W.bne (p := 1) (q := 0) (by decide) rfl rfl)
        replace W := W.wrote hw_84 (by simp)
        replace B_77 : Bx (.st (.pair (.st (.pair .bool (.pair (.int .u8) (.pair (.int .i64) (.pair .raw (.int .i64)))))) (.pair (.int .i64) (.sl (.st (.pair (.int .i64) (.sl (.int .u8)))))))) 47 w_83 (Kx K w.heap.size [some b_76, some b_5, some b_1]) b_76 ((x0.1, x0.2.1, x0.2.2.1, (.slice .none 0 0), x0.2.2.2.2), x_73, ⟨[], some 0⟩) := B_; clear B_
        refine wpList_nil ?_
        refine then_n ?_
        replace S := S.sub (l' := [(4, .pointer (some (⟨b_76, 0, .none⟩ : Addr))), (2, .pointer (some (⟨b_5, 0, .none⟩ : Addr))), (1, .pointer (some (⟨b_1, 0, .none⟩ : Addr)))]) (by exact ⟨rfl, rfl, rfl, trivial⟩)
        refine wp_seq ?_
        refine wp_seq ?_
        refine wp_region_lit ?_
        refine wl_pure (l' := [(79, .pointer (some ((⟨b_1, 0, .none⟩ : Addr).add (coff (.pair .bool (.pair (.int .u8) (.pair (.int .i64) (.pair (.sl (.sl (.int .u8))) (.int .i64))))) 3)))), (4, .pointer (some (⟨b_76, 0, .none⟩ : Addr))), (2, .pointer (some (⟨b_5, 0, .none⟩ : Addr))), (1, .pointer (some (⟨b_1, 0, .none⟩ : Addr)))]) S tys tys_ok 1 (by kernel_rfl) ?_
        clear S; intro a S
        refine w_go S rfl (op_load (t := (.sl (.sl (.int .u8)))) (x := x0.2.2.2.1) S rfl ty40 rfl rfl rfl (RepAt.add 3 (RepAt.st (t := (.pair .bool (.pair (.int .u8) (.pair (.int .i64) (.pair (.sl (.sl (.int .u8))) (.int .i64)))))) B_2.at_)) ?_)
        clear S; intro a v_85 R_86 S
        refine w_go S rfl (op_len (K := _) S rfl ty40 rfl rfl rfl R_86 ?_)
        clear S; intro a G_87 S
        refine wl_pure (l' := [(82, .int .i64 0), (81, .int .i64 (lenI x0.2.2.2.1)), (80, v_85), (79, .pointer (some ((⟨b_1, 0, .none⟩ : Addr).add (coff (.pair .bool (.pair (.int .u8) (.pair (.int .i64) (.pair (.sl (.sl (.int .u8))) (.int .i64))))) 3)))), (4, .pointer (some (⟨b_76, 0, .none⟩ : Addr))), (2, .pointer (some (⟨b_5, 0, .none⟩ : Addr))), (1, .pointer (some (⟨b_1, 0, .none⟩ : Addr)))]) S tys tys_ok 1 (by kernel_rfl) ?_
        clear S; intro a S
        refine wpList_nil ?_
        refine then_n ?_
        replace S := S.sub (l' := [(82, .int .i64 0), (81, .int .i64 (lenI x0.2.2.2.1)), (80, v_85), (4, .pointer (some (⟨b_76, 0, .none⟩ : Addr))), (2, .pointer (some (⟨b_5, 0, .none⟩ : Addr))), (1, .pointer (some (⟨b_1, 0, .none⟩ : Addr)))]) (by exact ⟨rfl, rfl, rfl, rfl, rfl, rfl, trivial⟩)
        obtain ⟨y_98, ey_98, h⟩ := bindS h
        refine wp_cut_ (fun a_ w_ => ∃ s_99 : (List (Sl (Int))), y_98 = .inl s_99 ∧ (∃ (v_100 : Value), St 103 a_ [(2, .pointer (some (⟨b_5, 0, .none⟩ : Addr))), (4, .pointer (some (⟨b_76, 0, .none⟩ : Addr)))] ∧ Wd w w_ [v_100.ownBlock, some b_76, some b_5, some b_1] ∧ Bx (.st (.pair .bool (.pair (.int .u8) (.pair (.int .i64) (.pair (.sl (.sl (.int .u8))) (.int .i64)))))) 42 w_ (Kx K w.heap.size [v_100.ownBlock, some b_76, some b_5, some b_1]) b_1 x0 ∧ Bx (.st (.pair (.st (.pair .bool (.pair (.int .u8) (.pair (.int .i64) (.pair .raw (.int .i64)))))) (.pair (.int .i64) (.sl (.st (.pair (.int .i64) (.sl (.int .u8)))))))) 47 w_ (Kx K w.heap.size [v_100.ownBlock, some b_76, some b_5, some b_1]) b_5 ((false, 0, 0, (.slice .none 0 0), 0), 0, ⟨[], some 0⟩) ∧ Bx (.st (.pair (.st (.pair .bool (.pair (.int .u8) (.pair (.int .i64) (.pair .raw (.int .i64)))))) (.pair (.int .i64) (.sl (.st (.pair (.int .i64) (.sl (.int .u8)))))))) 47 w_ (Kx K w.heap.size [v_100.ownBlock, some b_76, some b_5, some b_1]) b_76 ((x0.1, x0.2.1, x0.2.2.1, v_100, x0.2.2.2.2), x_73, ⟨[], some 0⟩) ∧ Ow (.sl (.int .u8)) 51 w_ w.heap.size (Kx K w.heap.size [v_100.ownBlock, some b_76, some b_5, some b_1]) v_100 s_99 .none)) ?_ ?_
        · refine wp_block ?_
          refine wp_loop_n (fun m_ a_ w_ => ∃ (c_88 : Int) (c_90 : List (Sl (Int))) , ∃ (v_91 : Value), St 103 a_ [(82, .int .i64 c_88), (81, .int .i64 (lenI x0.2.2.2.1)), (80, v_85), (4, .pointer (some (⟨b_76, 0, .none⟩ : Addr))), (2, .pointer (some (⟨b_5, 0, .none⟩ : Addr))), (1, .pointer (some (⟨b_1, 0, .none⟩ : Addr)))] ∧ Wd w w_ [v_91.ownBlock, some b_76, some b_5, some b_1] ∧ InR .i64 c_88 ∧ RepV (.sl (.sl (.int .u8))) w_ (Kx K w.heap.size [v_91.ownBlock, some b_76, some b_5, some b_1]) v_85 x0.2.2.2.1 ∧ Bx (.st (.pair .bool (.pair (.int .u8) (.pair (.int .i64) (.pair (.sl (.sl (.int .u8))) (.int .i64)))))) 42 w_ (Kx K w.heap.size [v_91.ownBlock, some b_76, some b_5, some b_1]) b_1 x0 ∧ Bx (.st (.pair (.st (.pair .bool (.pair (.int .u8) (.pair (.int .i64) (.pair .raw (.int .i64)))))) (.pair (.int .i64) (.sl (.st (.pair (.int .i64) (.sl (.int .u8)))))))) 47 w_ (Kx K w.heap.size [v_91.ownBlock, some b_76, some b_5, some b_1]) b_5 ((false, 0, 0, (.slice .none 0 0), 0), 0, ⟨[], some 0⟩) ∧ Bx (.st (.pair (.st (.pair .bool (.pair (.int .u8) (.pair (.int .i64) (.pair .raw (.int .i64)))))) (.pair (.int .i64) (.sl (.st (.pair (.int .i64) (.sl (.int .u8)))))))) 47 w_ (Kx K w.heap.size [v_91.ownBlock, some b_76, some b_5, some b_1]) b_76 ((x0.1, x0.2.1, x0.2.2.1, v_91, x0.2.2.2.2), x_73, ⟨[], some 0⟩) ∧ Ow (.sl (.int .u8)) 51 w_ w.heap.size (Kx K w.heap.size [v_91.ownBlock, some b_76, some b_5, some b_1]) v_91 c_90 .none ∧ p18_l1 n x0 m_ c_88 c_90 = some y_98) n ?_ ?_
          · skip
            replace R_86 := R_86.more
            replace B_2 := B_2.more
            replace B_6 := B_6.more
            replace B_77 := B_77.more
            replace W := W.more
            have O_104 : Ow (.sl (.int .u8)) 51 w_83 w.heap.size (Kx K w.heap.size [.none, some b_76, some b_5, some b_1]) (.slice .none 0 0) ([] : List (Sl (Int))) (some 0) := Ow.nil
            exact ⟨0, [], ⟨(.slice .none 0 0), S.sub (by exact ⟨rfl, rfl, rfl, rfl, rfl, rfl, trivial⟩), W, (by decide), R_86, B_2, B_6, B_77, O_104.forget, ey_98⟩⟩
          · clear S W; rintro m_102 a w_105 ⟨c_88, c_90, v_91, S, W, G_89, R_86, B_2, B_6, B_77, O_92, hl_103⟩
            cases m_102 with
            | zero => exact absurd hl_103 (by simp [p18_l1])
            | succ m_102 =>
              refine ⟨m_102, rfl, ?_⟩
              rw [p18_l1] at hl_103
              refine wp_seq ?_
              refine wp_region_lit ?_
              refine wl_pure (l' := [(83, .bool (decide (c_88 < (lenI x0.2.2.2.1)))), (82, .int .i64 c_88), (81, .int .i64 (lenI x0.2.2.2.1)), (80, v_85), (4, .pointer (some (⟨b_76, 0, .none⟩ : Addr))), (2, .pointer (some (⟨b_5, 0, .none⟩ : Addr))), (1, .pointer (some (⟨b_1, 0, .none⟩ : Addr)))]) S tys tys_ok 1 (by kernel_rfl) ?_
              clear S; intro a S
              refine wpList_nil ?_
              refine then_n ?_
              refine wp_seq ?_
              refine wp_cond_split (S.eval (show ev _ _ = some (.bool (decide (c_88 < (lenI x0.2.2.2.1)))) from rfl)) ?_ ?_
              · intro hc
                rw [if_pos hc] at hl_103
                refine wp_skip ?_
                refine then_n ?_
                replace S := S.sub (l' := [(82, .int .i64 c_88), (81, .int .i64 (lenI x0.2.2.2.1)), (80, v_85), (4, .pointer (some (⟨b_76, 0, .none⟩ : Addr))), (2, .pointer (some (⟨b_5, 0, .none⟩ : Addr))), (1, .pointer (some (⟨b_1, 0, .none⟩ : Addr)))]) (by exact ⟨rfl, rfl, rfl, rfl, rfl, rfl, trivial⟩)
                refine wp_seq ?_
                refine wp_block ?_
                refine wp_seq ?_
                refine wp_region_lit ?_
                obtain ⟨y_106, ey_106, hl_103⟩ := bindS hl_103
                refine w_go S rfl (op_indexAddr S rfl ty40 rfl rfl rfl R_86 rfl ey_106 ?_)
                clear S; intro a p_107 R_108 H_109 S
                refine w_go S rfl (op_load (t := (.sl (.int .u8))) (x := y_106) S rfl ty51 rfl rfl rfl R_108 ?_)
                clear S; intro a v_110 R_111 S
                refine wl_pure (l' := [(6, v_110), (85, v_110), (84, .pointer (some p_107)), (82, .int .i64 c_88), (81, .int .i64 (lenI x0.2.2.2.1)), (80, v_85), (4, .pointer (some (⟨b_76, 0, .none⟩ : Addr))), (2, .pointer (some (⟨b_5, 0, .none⟩ : Addr))), (1, .pointer (some (⟨b_1, 0, .none⟩ : Addr)))]) S tys tys_ok 1 (by kernel_rfl) ?_
                clear S; intro a S
                refine wpList_nil ?_
                refine then_n ?_
                replace S := S.sub (l' := [(6, v_110), (82, .int .i64 c_88), (81, .int .i64 (lenI x0.2.2.2.1)), (80, v_85), (4, .pointer (some (⟨b_76, 0, .none⟩ : Addr))), (2, .pointer (some (⟨b_5, 0, .none⟩ : Addr))), (1, .pointer (some (⟨b_1, 0, .none⟩ : Addr)))]) (by exact ⟨rfl, rfl, rfl, rfl, rfl, rfl, rfl, trivial⟩)
                refine wp_seq ?_
                refine wp_seq ?_
                refine wp_region_lit ?_
                refine wl_pure (l' := [(86, v_110), (6, v_110), (82, .int .i64 c_88), (81, .int .i64 (lenI x0.2.2.2.1)), (80, v_85), (4, .pointer (some (⟨b_76, 0, .none⟩ : Addr))), (2, .pointer (some (⟨b_5, 0, .none⟩ : Addr))), (1, .pointer (some (⟨b_1, 0, .none⟩ : Addr)))]) S tys tys_ok 1 (by kernel_rfl) ?_
                clear S; intro a S
                refine w_go S rfl (op_len (K := _) S rfl ty51 rfl rfl rfl R_111 ?_)
                clear S; intro a G_112 S
                refine wl_pure (l' := [(88, .pointer (some ((⟨b_1, 0, .none⟩ : Addr).add (coff (.pair .bool (.pair (.int .u8) (.pair (.int .i64) (.pair (.sl (.sl (.int .u8))) (.int .i64))))) 2)))), (87, .int .i64 (lenI y_106)), (86, v_110), (6, v_110), (82, .int .i64 c_88), (81, .int .i64 (lenI x0.2.2.2.1)), (80, v_85), (4, .pointer (some (⟨b_76, 0, .none⟩ : Addr))), (2, .pointer (some (⟨b_5, 0, .none⟩ : Addr))), (1, .pointer (some (⟨b_1, 0, .none⟩ : Addr)))]) S tys tys_ok 1 (by kernel_rfl) ?_
                clear S; intro a S
                refine w_go S rfl (op_load (t := (.int .i64)) (x := x0.2.2.1) S rfl ty3 rfl rfl rfl (RepAt.add 2 (RepAt.st (t := (.pair .bool (.pair (.int .u8) (.pair (.int .i64) (.pair (.sl (.sl (.int .u8))) (.int .i64)))))) B_2.at_)) ?_)
                clear S; intro a v_113 R_114 S
                obtain ⟨rfl, GR_114⟩ := RepV.int R_114
                refine wl_pure (l' := [(90, .bool (decide ((lenI y_106) > x0.2.2.1))), (89, .int .i64 x0.2.2.1), (88, .pointer (some ((⟨b_1, 0, .none⟩ : Addr).add (coff (.pair .bool (.pair (.int .u8) (.pair (.int .i64) (.pair (.sl (.sl (.int .u8))) (.int .i64))))) 2)))), (87, .int .i64 (lenI y_106)), (86, v_110), (6, v_110), (82, .int .i64 c_88), (81, .int .i64 (lenI x0.2.2.2.1)), (80, v_85), (4, .pointer (some (⟨b_76, 0, .none⟩ : Addr))), (2, .pointer (some (⟨b_5, 0, .none⟩ : Addr))), (1, .pointer (some (⟨b_1, 0, .none⟩ : Addr)))]) S tys tys_ok 1 (by kernel_rfl) ?_
                clear S; intro a S
                refine wpList_nil ?_
                refine then_n ?_
                replace S := S.sub (l' := [(90, .bool (decide ((lenI y_106) > x0.2.2.1))), (6, v_110), (82, .int .i64 c_88), (81, .int .i64 (lenI x0.2.2.2.1)), (80, v_85), (4, .pointer (some (⟨b_76, 0, .none⟩ : Addr))), (2, .pointer (some (⟨b_5, 0, .none⟩ : Addr))), (1, .pointer (some (⟨b_1, 0, .none⟩ : Addr)))]) (by exact ⟨rfl, rfl, rfl, rfl, rfl, rfl, rfl, rfl, trivial⟩)
                refine wp_cond_split (S.eval (show ev _ _ = some (.bool (decide ((lenI y_106) > x0.2.2.1))) from rfl)) ?_ ?_
                · intro hc
                  rw [if_pos hc] at hl_103
                  refine wp_seq ?_
                  refine wp_region_lit ?_
                  refine w_go S rfl (op_build (K := (Kx K w.heap.size [v_91.ownBlock, some b_76, some b_5, some b_1])) (f := (.pair (.st (.pair .bool (.pair (.int .u8) (.pair (.int .i64) (.pair (.sl (.sl (.int .u8))) (.int .i64)))))) (.pair (.int .i64) (.sl (.st (.pair (.int .i64) (.sl (.int .u8)))))))) (z0 := ((false, 0, 0, ⟨[], some 0⟩, 0), 0, ⟨[], some 0⟩)) (x := ((false, 0, 0, ⟨[], some 0⟩, 0), 0, ⟨[], some 0⟩)) (vs := []) S _ rfl ty47 z47 (fun w K => ⟨[.bool false, .int .u8 0, .int .i64 0, .slice .none 0 0, .int .i64 0], [.int .i64 0, .slice .none 0 0], rfl, ⟨[.bool false], [.int .u8 0, .int .i64 0, .slice .none 0 0, .int .i64 0], rfl, rfl, ⟨[.int .u8 0], [.int .i64 0, .slice .none 0 0, .int .i64 0], rfl, ⟨rfl, by decide⟩, ⟨[.int .i64 0], [.slice .none 0 0, .int .i64 0], rfl, ⟨rfl, by decide⟩, ⟨[.slice .none 0 0], [.int .i64 0], rfl, ⟨.none, 0, 0, rfl, rfl, Nat.le_refl _, by decide, fun k h => Option.some.inj h, .inl rfl⟩, ⟨rfl, by decide⟩⟩⟩⟩⟩, ⟨[.int .i64 0], [.slice .none 0 0], rfl, ⟨rfl, by decide⟩, ⟨.none, 0, 0, rfl, rfl, Nat.le_refl _, by decide, fun k h => Option.some.inj h, .inl rfl⟩⟩⟩) rfl rfl rfl [] rfl rfl ?_)
                  clear S; intro a v_115 R_116 S
                  replace B_6 : Bx (.st (.pair (.st (.pair .bool (.pair (.int .u8) (.pair (.int .i64) (.pair (.sl (.sl (.int .u8))) (.int .i64)))))) (.pair (.int .i64) (.sl (.st (.pair (.int .i64) (.sl (.int .u8)))))))) 47 w_105 (Kx K w.heap.size [v_91.ownBlock, some b_76, some b_5, some b_1]) b_5 ((false, 0, 0, (⟨[], some 0⟩ : Sl (Sl (Int))), 0), 0, ⟨[], some 0⟩) := Bx.unrawX (t' := (.st (.pair (.st (.pair .bool (.pair (.int .u8) (.pair (.int .i64) (.pair (.sl (.sl (.int .u8))) (.int .i64)))))) (.pair (.int .i64) (.sl (.st (.pair (.int .i64) (.sl (.int .u8))))))))) (Lx.st (Lx.left (Lx.st (Lx.right (Lx.right (Lx.right (Lx.left Lx.here))))))) B_6 RepV.nil
                  refine w_go S rfl (op_store (t' := (.st (.pair (.st (.pair .bool (.pair (.int .u8) (.pair (.int .i64) (.pair (.sl (.sl (.int .u8))) (.int .i64)))))) (.pair (.int .i64) (.sl (.st (.pair (.int .i64) (.sl (.int .u8))))))))) S rfl rfl ty47 rfl rfl rfl B_6 (by simp) Ln.whole R_116 ?_)
                  intro w_117 hw_118 B_
                  replace R_111 := R_111.wrote hw_118 (by simp)
                  replace R_86 := R_86.wrote hw_118 (by simp)
                  replace R_116 := R_116.wrote hw_118 (by simp)
                  replace B_2 := B_2.wrote hw_118 (by simp) (W.bne (p := 3) (q := 2) (by decide) rfl rfl)
                  replace B_77 := B_77.wrote hw_118 (by simp) (W.bne (p := 1) (q := 2) (by decide) rfl rfl)
                  replace O_92 := O_92.wrote hw_118 (by simp) (W.one (p := 0) (q := 2) (by decide) rfl rfl)
                  replace W := W.wrote hw_118 (by simp)
                  replace B_6 : Bx (.st (.pair (.st (.pair .bool (.pair (.int .u8) (.pair (.int .i64) (.pair (.sl (.sl (.int .u8))) (.int .i64)))))) (.pair (.int .i64) (.sl (.st (.pair (.int .i64) (.sl (.int .u8)))))))) 47 w_117 (Kx K w.heap.size [v_91.ownBlock, some b_76, some b_5, some b_1]) b_5 ((false, 0, 0, ⟨[], some 0⟩, 0), 0, ⟨[], some 0⟩) := B_; clear B_
                  refine wl_pure (l' := [(3, .int .i64 3), (91, v_115), (90, .bool (decide ((lenI y_106) > x0.2.2.1))), (6, v_110), (82, .int .i64 c_88), (81, .int .i64 (lenI x0.2.2.2.1)), (80, v_85), (4, .pointer (some (⟨b_76, 0, .none⟩ : Addr))), (2, .pointer (some (⟨b_5, 0, .none⟩ : Addr))), (1, .pointer (some (⟨b_1, 0, .none⟩ : Addr)))]) S tys tys_ok 1 (by kernel_rfl) ?_
                  clear S; intro a S
                  refine wpList_nil ?_
                  refine then_n ?_
                  replace S := S.sub (l' := [(3, .int .i64 3), (2, .pointer (some (⟨b_5, 0, .none⟩ : Addr)))]) (by exact ⟨rfl, rfl, trivial⟩)
                  refine wp_ret ?_
                  refine then_r ?_
                  refine blk_r ?_
                  refine then_r ?_
                  refine then_r ?_
                  refine blk_r ?_
                  refine then_r ?_
                  refine then_r ?_
                  obtain ⟨v_119, hr_120, R_121⟩ := res_cell (P := Try.prog) (T := 47) (t := (.st (.pair (.st (.pair .bool (.pair (.int .u8) (.pair (.int .i64) (.pair (.sl (.sl (.int .u8))) (.int .i64)))))) (.pair (.int .i64) (.sl (.st (.pair (.int .i64) (.sl (.int .u8))))))))) (x := ((false, 0, 0, ⟨[], some 0⟩, 0), 0, ⟨[], some 0⟩)) S (s := 2) rfl ty47 B_6.at_
                  obtain rfl := Option.some.inj hl_103
                  obtain rfl := lr_inr h
                  exact b_res2 S rfl hr_120 (res_tmp S rfl) ⟨_, _, rfl, R_121.out, (RepV.mkInt (by decide)), W.below⟩
                · intro hc
                  rw [if_neg (Bool.eq_false_iff.1 hc)] at hl_103
                  refine wp_skip ?_
                  refine then_n ?_
                  replace S := S.sub (l' := [(6, v_110), (82, .int .i64 c_88), (81, .int .i64 (lenI x0.2.2.2.1)), (80, v_85), (4, .pointer (some (⟨b_76, 0, .none⟩ : Addr))), (2, .pointer (some (⟨b_5, 0, .none⟩ : Addr))), (1, .pointer (some (⟨b_1, 0, .none⟩ : Addr)))]) (by exact ⟨rfl, rfl, rfl, rfl, rfl, rfl, rfl, trivial⟩)
                  obtain ⟨t_124, et_124, hl_103⟩ := bindS hl_103
                  have hR : Rel (Kx K w.heap.size [v_91.ownBlock, some b_76, some b_5, some b_1]) Bl := Bl.rel _
                  refine wp_region_suf 6 [1, 2, 6, 4, 6, 6, 7, 8, 9] hR [eqv (.pointer (some ((⟨b_76, 0, .none⟩ : Addr).add (coff (.pair (.st (.pair .bool (.pair (.int .u8) (.pair (.int .i64) (.pair (.sl (.sl (.int .u8))) (.int .i64)))))) (.pair (.int .i64) (.sl (.st (.pair (.int .i64) (.sl (.int .u8))))))) 0)))), eqv (.pointer (some (((⟨b_76, 0, .none⟩ : Addr).add (coff (.pair (.st (.pair .bool (.pair (.int .u8) (.pair (.int .i64) (.pair (.sl (.sl (.int .u8))) (.int .i64)))))) (.pair (.int .i64) (.sl (.st (.pair (.int .i64) (.sl (.int .u8))))))) 0)).add (coff (.pair .bool (.pair (.int .u8) (.pair (.int .i64) (.pair (.sl (.sl (.int .u8))) (.int .i64))))) 3)))), eqv (v_91), isRep (.sl (.int .u8)) (Kx K w.heap.size [v_91.ownBlock, some b_76, some b_5, some b_1]) y_106, isRep (.sl (.int .u8)) (Kx K w.heap.size [v_91.ownBlock, some b_76, some b_5, some b_1]) t_124, isRep (.sl (.sl (.int .u8))) (Kx K w.heap.size [v_91.ownBlock, some b_76, some b_5, some b_1]) (⟨[t_124], some 1⟩ : Sl (Sl (Int)))] [[], [(0, 92)], [(1, 93)], [], [(3, 95)], [(4, 96)]] (by kernel_rfl) (by rw [S.size]; kernel_rfl) (by kernel_rfl) (by kernel_rfl) (by kernel_rfl) rfl ⟨(stab_eqv _), (stab_eqv _), (stab_eqv _), (stab_rep hR), (stab_rep hR), (stab_rep hR), trivial⟩ ?_ ?_
                  ·
                    refine RunAll.cons (eqv (.pointer (some ((⟨b_76, 0, .none⟩ : Addr).add (coff (.pair (.st (.pair .bool (.pair (.int .u8) (.pair (.int .i64) (.pair (.sl (.sl (.int .u8))) (.int .i64)))))) (.pair (.int .i64) (.sl (.st (.pair (.int .i64) (.sl (.int .u8))))))) 0))))) [] rfl rfl ?_ ?_
                    · intro W_ hW
                      have S1 := S
                      refine fill_nil S1 ?_; clear S1; intro a_ S1
                      replace B_77 := B_77.step hW
                      have S0 := S.defers; replace S := S1; clear S1
                      refine wl_pure (l' := [(92, .pointer (some ((⟨b_76, 0, .none⟩ : Addr).add (coff (.pair (.st (.pair .bool (.pair (.int .u8) (.pair (.int .i64) (.pair (.sl (.sl (.int .u8))) (.int .i64)))))) (.pair (.int .i64) (.sl (.st (.pair (.int .i64) (.sl (.int .u8))))))) 0)))), (6, v_110), (82, .int .i64 c_88), (81, .int .i64 (lenI x0.2.2.2.1)), (80, v_85), (4, .pointer (some (⟨b_76, 0, .none⟩ : Addr))), (2, .pointer (some (⟨b_5, 0, .none⟩ : Addr))), (1, .pointer (some (⟨b_1, 0, .none⟩ : Addr)))]) S tys tys_ok 1 (by kernel_rfl) ?_; clear S; intro a S
                      refine wpList_nil ?_
                      exact RPost.mk_ S rfl S0 rfl (Below.refl _ _)
                    refine RunAll.cons (eqv (.pointer (some (((⟨b_76, 0, .none⟩ : Addr).add (coff (.pair (.st (.pair .bool (.pair (.int .u8) (.pair (.int .i64) (.pair (.sl (.sl (.int .u8))) (.int .i64)))))) (.pair (.int .i64) (.sl (.st (.pair (.int .i64) (.sl (.int .u8))))))) 0)).add (coff (.pair .bool (.pair (.int .u8) (.pair (.int .i64) (.pair (.sl (.sl (.int .u8))) (.int .i64))))) 3))))) [(eqv (.pointer (some ((⟨b_76, 0, .none⟩ : Addr).add (coff (.pair (.st (.pair .bool (.pair (.int .u8) (.pair (.int .i64) (.pair (.sl (.sl (.int .u8))) (.int .i64)))))) (.pair (.int .i64) (.sl (.st (.pair (.int .i64) (.sl (.int .u8))))))) 0)))), 92)] rfl rfl ?_ ?_
                    · intro W_ hW
                      have S1 := S
                      intro v_134 hF_133; obtain rfl : .pointer (some ((⟨b_76, 0, .none⟩ : Addr).add (coff (.pair (.st (.pair .bool (.pair (.int .u8) (.pair (.int .i64) (.pair (.sl (.sl (.int .u8))) (.int .i64)))))) (.pair (.int .i64) (.sl (.st (.pair (.int .i64) (.sl (.int .u8))))))) 0))) = v_134 := Eq.symm hF_133
                      replace S1 := S1.put (by decide : 92 < 103) (.pointer (some ((⟨b_76, 0, .none⟩ : Addr).add (coff (.pair (.st (.pair .bool (.pair (.int .u8) (.pair (.int .i64) (.pair (.sl (.sl (.int .u8))) (.int .i64)))))) (.pair (.int .i64) (.sl (.st (.pair (.int .i64) (.sl (.int .u8))))))) 0))))
                      refine fill_nil S1 ?_; clear S1; intro a_ S1
                      replace B_77 := B_77.step hW
                      have S0 := S.defers; replace S := S1; clear S1
                      refine wl_pure (l' := [(93, .pointer (some (((⟨b_76, 0, .none⟩ : Addr).add (coff (.pair (.st (.pair .bool (.pair (.int .u8) (.pair (.int .i64) (.pair (.sl (.sl (.int .u8))) (.int .i64)))))) (.pair (.int .i64) (.sl (.st (.pair (.int .i64) (.sl (.int .u8))))))) 0)).add (coff (.pair .bool (.pair (.int .u8) (.pair (.int .i64) (.pair (.sl (.sl (.int .u8))) (.int .i64))))) 3)))), (92, .pointer (some ((⟨b_76, 0, .none⟩ : Addr).add (coff (.pair (.st (.pair .bool (.pair (.int .u8) (.pair (.int .i64) (.pair (.sl (.sl (.int .u8))) (.int .i64)))))) (.pair (.int .i64) (.sl (.st (.pair (.int .i64) (.sl (.int .u8))))))) 0)))), (6, v_110), (82, .int .i64 c_88), (81, .int .i64 (lenI x0.2.2.2.1)), (80, v_85), (4, .pointer (some (⟨b_76, 0, .none⟩ : Addr))), (2, .pointer (some (⟨b_5, 0, .none⟩ : Addr))), (1, .pointer (some (⟨b_1, 0, .none⟩ : Addr)))]) S tys tys_ok 1 (by kernel_rfl) ?_; clear S; intro a S
                      refine wpList_nil ?_
                      exact RPost.mk_ S rfl S0 rfl (Below.refl _ _)
                    refine RunAll.cons (eqv (v_91)) [(eqv (.pointer (some (((⟨b_76, 0, .none⟩ : Addr).add (coff (.pair (.st (.pair .bool (.pair (.int .u8) (.pair (.int .i64) (.pair (.sl (.sl (.int .u8))) (.int .i64)))))) (.pair (.int .i64) (.sl (.st (.pair (.int .i64) (.sl (.int .u8))))))) 0)).add (coff (.pair .bool (.pair (.int .u8) (.pair (.int .i64) (.pair (.sl (.sl (.int .u8))) (.int .i64))))) 3)))), 93)] rfl rfl ?_ ?_
                    · intro W_ hW
                      have S1 := S
                      intro v_136 hF_135; obtain rfl : .pointer (some (((⟨b_76, 0, .none⟩ : Addr).add (coff (.pair (.st (.pair .bool (.pair (.int .u8) (.pair (.int .i64) (.pair (.sl (.sl (.int .u8))) (.int .i64)))))) (.pair (.int .i64) (.sl (.st (.pair (.int .i64) (.sl (.int .u8))))))) 0)).add (coff (.pair .bool (.pair (.int .u8) (.pair (.int .i64) (.pair (.sl (.sl (.int .u8))) (.int .i64))))) 3))) = v_136 := Eq.symm hF_135
                      replace S1 := S1.put (by decide : 93 < 103) (.pointer (some (((⟨b_76, 0, .none⟩ : Addr).add (coff (.pair (.st (.pair .bool (.pair (.int .u8) (.pair (.int .i64) (.pair (.sl (.sl (.int .u8))) (.int .i64)))))) (.pair (.int .i64) (.sl (.st (.pair (.int .i64) (.sl (.int .u8))))))) 0)).add (coff (.pair .bool (.pair (.int .u8) (.pair (.int .i64) (.pair (.sl (.sl (.int .u8))) (.int .i64))))) 3))))
                      refine fill_nil S1 ?_; clear S1; intro a_ S1
                      replace B_77 := B_77.step hW
                      have S0 := S.defers; replace S := S1; clear S1
                      refine w_go S rfl (op_load (t := .raw) (x := v_91) S rfl tyr40 rfl rfl rfl (RepAt.add 3 (RepAt.st (t := (.pair .bool (.pair (.int .u8) (.pair (.int .i64) (.pair .raw (.int .i64)))))) (RepAt.add 0 (RepAt.st (t := (.pair (.st (.pair .bool (.pair (.int .u8) (.pair (.int .i64) (.pair .raw (.int .i64)))))) (.pair (.int .i64) (.sl (.st (.pair (.int .i64) (.sl (.int .u8)))))))) B_77.at_)))) ?_)
                      clear S; intro a v_137 R_138 S
                      have q_ := (RepV.rawEq R_138).symm; clear R_138; subst q_
                      refine wpList_nil ?_
                      exact RPost.mk_ S rfl S0 rfl (Below.refl _ _)
                    refine RunAll.cons (isRep (.sl (.int .u8)) (Kx K w.heap.size [v_91.ownBlock, some b_76, some b_5, some b_1]) y_106) [] rfl rfl ?_ ?_
                    · intro W_ hW
                      have S1 := S
                      refine fill_nil S1 ?_; clear S1; intro a_ S1
                      replace R_111 := R_111.step hW
                      have S0 := S.defers; replace S := S1; clear S1
                      refine wl_pure (l' := [(95, v_110), (6, v_110), (82, .int .i64 c_88), (81, .int .i64 (lenI x0.2.2.2.1)), (80, v_85), (4, .pointer (some (⟨b_76, 0, .none⟩ : Addr))), (2, .pointer (some (⟨b_5, 0, .none⟩ : Addr))), (1, .pointer (some (⟨b_1, 0, .none⟩ : Addr)))]) S tys tys_ok 1 (by kernel_rfl) ?_; clear S; intro a S
                      refine wpList_nil ?_
                      exact RPost.mk_ S rfl S0 R_111 (Below.refl _ _)
                    refine RunAll.cons (isRep (.sl (.int .u8)) (Kx K w.heap.size [v_91.ownBlock, some b_76, some b_5, some b_1]) t_124) [(isRep (.sl (.int .u8)) (Kx K w.heap.size [v_91.ownBlock, some b_76, some b_5, some b_1]) y_106, 95)] rfl rfl ?_ ?_
                    · intro W_ hW
                      have S1 := S
                      intro v_140 hF_139; replace hF_139 : RepV _ _ _ _ _ := hF_139
                      replace S1 := S1.put (by decide : 95 < 103) (v_140)
                      refine fill_nil S1 ?_; clear S1; intro a_ S1
                      replace W := W.step hW
                      have S0 := S.defers; replace S := S1; clear S1
                      refine w_go S rfl (op_call (vs := [v_140]) S rfl cb25 rfl rfl rfl (c25 (Kx K w.heap.size [v_91.ownBlock, some b_76, some b_5, some b_1]) n W_ y_106 _ hF_139 et_124) ?_)
                      rintro _ w_144 ⟨v_141, rfl, R_142, hb_143⟩; refine ⟨_, rfl, ?_⟩
                      replace R_142 := Ow.pub0 R_142
                      replace R_142 := RepV.back R_142 W
                      clear S; intro a S
                      refine wpList_nil ?_
                      exact RPost.mk_ S rfl S0 R_142 (hb_143)
                    refine RunAll.cons (isRep (.sl (.sl (.int .u8))) (Kx K w.heap.size [v_91.ownBlock, some b_76, some b_5, some b_1]) (⟨[t_124], some 1⟩ : Sl (Sl (Int)))) [(isRep (.sl (.int .u8)) (Kx K w.heap.size [v_91.ownBlock, some b_76, some b_5, some b_1]) t_124, 96)] rfl rfl ?_ ?_
                    · intro W_ hW
                      have S1 := S
                      intro v_146 hF_145; replace hF_145 : RepV _ _ _ _ _ := hF_145
                      replace S1 := S1.put (by decide : 96 < 103) (v_146)
                      refine fill_nil S1 ?_; clear S1; intro a_ S1
                      replace W := W.step hW
                      have S0 := S.defers; replace S := S1; clear S1
                      refine w_go S rfl (op_buildSlice (K := K) (e := (.sl (.int .u8))) (vs := [v_146]) (xs := [t_124]) S W rfl ty40 rfl rfl (by kernel_rfl) rfl rfl rfl rfl rfl ⟨hF_145, trivial⟩ ?_)
                      clear S; intro a w_150 v_147 hb_149 R_148 S
                      refine wpList_nil ?_
                      exact RPost.mk_ S rfl S0 R_148 (hb_149)
                    exact trivial
                  intro w_151 hb_152
                  refine EndE.some_ rfl ?_
                  intro v_154 hF_153; obtain rfl : .pointer (some ((⟨b_76, 0, .none⟩ : Addr).add (coff (.pair (.st (.pair .bool (.pair (.int .u8) (.pair (.int .i64) (.pair (.sl (.sl (.int .u8))) (.int .i64)))))) (.pair (.int .i64) (.sl (.st (.pair (.int .i64) (.sl (.int .u8))))))) 0))) = v_154 := Eq.symm hF_153
                  replace S := S.put (by decide : 92 < 103) (.pointer (some ((⟨b_76, 0, .none⟩ : Addr).add (coff (.pair (.st (.pair .bool (.pair (.int .u8) (.pair (.int .i64) (.pair (.sl (.sl (.int .u8))) (.int .i64)))))) (.pair (.int .i64) (.sl (.st (.pair (.int .i64) (.sl (.int .u8))))))) 0))))
                  refine EndE.some_ rfl ?_
                  intro v_156 hF_155; obtain rfl : .pointer (some (((⟨b_76, 0, .none⟩ : Addr).add (coff (.pair (.st (.pair .bool (.pair (.int .u8) (.pair (.int .i64) (.pair (.sl (.sl (.int .u8))) (.int .i64)))))) (.pair (.int .i64) (.sl (.st (.pair (.int .i64) (.sl (.int .u8))))))) 0)).add (coff (.pair .bool (.pair (.int .u8) (.pair (.int .i64) (.pair (.sl (.sl (.int .u8))) (.int .i64))))) 3))) = v_156 := Eq.symm hF_155
                  replace S := S.put (by decide : 93 < 103) (.pointer (some (((⟨b_76, 0, .none⟩ : Addr).add (coff (.pair (.st (.pair .bool (.pair (.int .u8) (.pair (.int .i64) (.pair (.sl (.sl (.int .u8))) (.int .i64)))))) (.pair (.int .i64) (.sl (.st (.pair (.int .i64) (.sl (.int .u8))))))) 0)).add (coff (.pair .bool (.pair (.int .u8) (.pair (.int .i64) (.pair (.sl (.sl (.int .u8))) (.int .i64))))) 3))))
                  refine EndE.some_ rfl ?_
                  intro v_158 hF_157; obtain rfl : v_91 = v_158 := Eq.symm hF_157
                  replace S := S.put (by decide : 94 < 103) (v_91)
                  refine EndE.some_ rfl ?_
                  intro v_160 hF_159; replace hF_159 : RepV _ _ _ _ _ := hF_159
                  replace S := S.put (by decide : 95 < 103) (v_160)
                  refine EndE.some_ rfl ?_
                  intro v_162 hF_161; replace hF_161 : RepV _ _ _ _ _ := hF_161
                  replace S := S.put (by decide : 96 < 103) (v_162)
                  refine EndE.some_ rfl ?_
                  intro v_164 hF_163; replace hF_163 : RepV _ _ _ _ _ := hF_163
                  replace S := S.put (by decide : 97 < 103) (v_164)
                  refine endE_nil S ?_; clear S; intro a S
                  replace R_111 := R_111.step hb_152
                  replace R_86 := R_86.step hb_152
                  replace B_2 := B_2.step hb_152
                  replace B_6 := B_6.step hb_152
                  replace B_77 := B_77.step hb_152
                  replace O_92 := O_92.step hb_152
                  replace W := W.step hb_152
                  obtain ⟨l_165, el_165, hl_103⟩ := bindS hl_103
                  refine w_go S rfl (op_append S W (E := 51) 0 rfl ty40 un40 by40 rfl rfl rfl rfl O_92 rfl hF_163 el_165 ?_)
                  clear S; intro a w_167 v_166 A_168 O_169 S
                  replace R_111 : RepV (.sl (.int .u8)) w_167 (Kx K w.heap.size [v_166.ownBlock, some b_76, some b_5, some b_1]) v_110 y_106 := R_111.apd A_168 (i := 0) rfl
                  replace R_86 : RepV (.sl (.sl (.int .u8))) w_167 (Kx K w.heap.size [v_166.ownBlock, some b_76, some b_5, some b_1]) v_85 x0.2.2.2.1 := R_86.apd A_168 (i := 0) rfl
                  replace hF_159 : RepV (.sl (.int .u8)) w_167 (Kx K w.heap.size [v_166.ownBlock, some b_76, some b_5, some b_1]) v_160 y_106 := hF_159.apd A_168 (i := 0) rfl
                  replace hF_161 : RepV (.sl (.int .u8)) w_167 (Kx K w.heap.size [v_166.ownBlock, some b_76, some b_5, some b_1]) v_162 t_124 := hF_161.apd A_168 (i := 0) rfl
                  replace hF_163 : RepV (.sl (.sl (.int .u8))) w_167 (Kx K w.heap.size [v_166.ownBlock, some b_76, some b_5, some b_1]) v_164 (⟨[t_124], some 1⟩ : Sl (Sl (Int))) := hF_163.apd A_168 (i := 0) rfl
                  replace B_2 : Bx (.st (.pair .bool (.pair (.int .u8) (.pair (.int .i64) (.pair (.sl (.sl (.int .u8))) (.int .i64)))))) 42 w_167 (Kx K w.heap.size [v_166.ownBlock, some b_76, some b_5, some b_1]) b_1 x0 := B_2.apd W A_168 (i := 0) rfl (j := 3) rfl (by decide)
                  replace B_6 : Bx (.st (.pair (.st (.pair .bool (.pair (.int .u8) (.pair (.int .i64) (.pair .raw (.int .i64)))))) (.pair (.int .i64) (.sl (.st (.pair (.int .i64) (.sl (.int .u8)))))))) 47 w_167 (Kx K w.heap.size [v_166.ownBlock, some b_76, some b_5, some b_1]) b_5 ((false, 0, 0, (.slice .none 0 0), 0), 0, ⟨[], some 0⟩) := B_6.apd W A_168 (i := 0) rfl (j := 2) rfl (by decide)
                  replace B_77 : Bx (.st (.pair (.st (.pair .bool (.pair (.int .u8) (.pair (.int .i64) (.pair .raw (.int .i64)))))) (.pair (.int .i64) (.sl (.st (.pair (.int .i64) (.sl (.int .u8)))))))) 47 w_167 (Kx K w.heap.size [v_166.ownBlock, some b_76, some b_5, some b_1]) b_76 ((x0.1, x0.2.1, x0.2.2.1, v_91, x0.2.2.2.2), x_73, ⟨[], some 0⟩) := B_77.apd W A_168 (i := 0) rfl (j := 1) rfl (by decide)
                  replace W : Wd w w_167 [v_166.ownBlock, some b_76, some b_5, some b_1] := W.apd A_168 (i := 0) rfl
                  replace O_169 : Ow (.sl (.int .u8)) 51 w_167 w.heap.size (Kx K w.heap.size [v_166.ownBlock, some b_76, some b_5, some b_1]) v_166 l_165 (capA .none l_165.length) := O_169
                  refine wl_pure (l' := [(100, .pointer (some (((⟨b_76, 0, .none⟩ : Addr).add (coff (.pair (.st (.pair .bool (.pair (.int .u8) (.pair (.int .i64) (.pair (.sl (.sl (.int .u8))) (.int .i64)))))) (.pair (.int .i64) (.sl (.st (.pair (.int .i64) (.sl (.int .u8))))))) 0)).add (coff (.pair .bool (.pair (.int .u8) (.pair (.int .i64) (.pair (.sl (.sl (.int .u8))) (.int .i64))))) 3)))), (99, .pointer (some ((⟨b_76, 0, .none⟩ : Addr).add (coff (.pair (.st (.pair .bool (.pair (.int .u8) (.pair (.int .i64) (.pair (.sl (.sl (.int .u8))) (.int .i64)))))) (.pair (.int .i64) (.sl (.st (.pair (.int .i64) (.sl (.int .u8))))))) 0)))), (98, v_166), (97, v_164), (96, v_162), (95, v_160), (94, v_91), (93, .pointer (some (((⟨b_76, 0, .none⟩ : Addr).add (coff (.pair (.st (.pair .bool (.pair (.int .u8) (.pair (.int .i64) (.pair (.sl (.sl (.int .u8))) (.int .i64)))))) (.pair (.int .i64) (.sl (.st (.pair (.int .i64) (.sl (.int .u8))))))) 0)).add (coff (.pair .bool (.pair (.int .u8) (.pair (.int .i64) (.pair (.sl (.sl (.int .u8))) (.int .i64))))) 3)))), (92, .pointer (some ((⟨b_76, 0, .none⟩ : Addr).add (coff (.pair (.st (.pair .bool (.pair (.int .u8) (.pair (.int .i64) (.pair (.sl (.sl (.int .u8))) (.int .i64)))))) (.pair (.int .i64) (.sl (.st (.pair (.int .i64) (.sl (.int .u8))))))) 0)))), (6, v_110), (82, .int .i64 c_88), (81, .int .i64 (lenI x0.2.2.2.1)), (80, v_85), (4, .pointer (some (⟨b_76, 0, .none⟩ : Addr))), (2, .pointer (some (⟨b_5, 0, .none⟩ : Addr))), (1, .pointer (some (⟨b_1, 0, .none⟩ : Addr)))]) S tys tys_ok 2 (by kernel_rfl) ?_
                  clear S; intro a S
                  refine w_go S rfl (op_store (t' := .raw) S rfl rfl tyr40 rfl (addr_add2 _ _ _) rfl B_77 (by simp) (Ln.trans (Ln.st (Ln.comp 0)) (Ln.st (Ln.comp 3))) O_169.raw ?_)
                  intro w_170 hw_171 B_
                  replace R_111 := R_111.wrote hw_171 (by simp)
                  replace R_86 := R_86.wrote hw_171 (by simp)
                  replace hF_159 := hF_159.wrote hw_171 (by simp)
                  replace hF_161 := hF_161.wrote hw_171 (by simp)
                  replace hF_163 := hF_163.wrote hw_171 (by simp)
                  replace B_2 := B_2.wrote hw_171 (by simp) (W.bne (p := 3) (q := 1) (by decide) rfl rfl)
                  replace B_6 := B_6.wrote hw_171 (by simp) (W.bne (p := 2) (q := 1) (by decide) rfl rfl)
                  replace O_169 := O_169.wrote hw_171 (by simp) (W.one (p := 0) (q := 1) (by decide) rfl rfl)
                  replace W := W.wrote hw_171 (by simp)
                  replace B_77 : Bx (.st (.pair (.st (.pair .bool (.pair (.int .u8) (.pair (.int .i64) (.pair .raw (.int .i64)))))) (.pair (.int .i64) (.sl (.st (.pair (.int .i64) (.sl (.int .u8)))))))) 47 w_170 (Kx K w.heap.size [v_166.ownBlock, some b_76, some b_5, some b_1]) b_76 ((x0.1, x0.2.1, x0.2.2.1, v_166, x0.2.2.2.2), x_73, ⟨[], some 0⟩) := B_; clear B_
                  refine wpList_nil ?_
                  refine blk_n ?_
                  refine then_n ?_
                  replace S := S.sub (l' := [(82, .int .i64 c_88), (81, .int .i64 (lenI x0.2.2.2.1)), (80, v_85), (4, .pointer (some (⟨b_76, 0, .none⟩ : Addr))), (2, .pointer (some (⟨b_5, 0, .none⟩ : Addr))), (1, .pointer (some (⟨b_1, 0, .none⟩ : Addr)))]) (by exact ⟨rfl, rfl, rfl, rfl, rfl, rfl, trivial⟩)
                  refine wp_region_lit ?_
                  obtain ⟨x_172, ex_172, hl_103⟩ := bindS hl_103
                  refine w_go S rfl (op_arith S .i64 (c_88 + 1) rfl (.inl rfl) rfl rfl rfl rfl ex_172 ?_)
                  clear S; intro a S
                  refine wl_pure (l' := [(82, .int .i64 x_172), (101, .int .i64 x_172), (82, .int .i64 c_88), (81, .int .i64 (lenI x0.2.2.2.1)), (80, v_85), (4, .pointer (some (⟨b_76, 0, .none⟩ : Addr))), (2, .pointer (some (⟨b_5, 0, .none⟩ : Addr))), (1, .pointer (some (⟨b_1, 0, .none⟩ : Addr)))]) S tys tys_ok 1 (by kernel_rfl) ?_
                  clear S; intro a S
                  refine wpList_nil ?_
                  refine then_n ?_
                  exact ⟨x_172, l_165, ⟨v_166, S.sub (by exact ⟨rfl, rfl, rfl, rfl, rfl, rfl, trivial⟩), W, (ckI_some ex_172).2.1, R_86, B_2, B_6, B_77, O_169.forget, hl_103⟩⟩
              · intro hc
                rw [if_neg (Bool.eq_false_iff.1 hc)] at hl_103
                refine wp_exit ?_
                refine then_x ?_
                refine then_x ?_
                refine blk_hit ?_
                refine then_n ?_
                obtain rfl := Option.some.inj hl_103
                exact ⟨_, rfl, ⟨v_91, S.sub (by exact ⟨rfl, rfl, trivial⟩), W, B_2, B_6, B_77, O_92⟩⟩
        clear S W; rintro a w_173 ⟨s_99, rfl, v_100, S, W, B_2, B_6, B_77, O_101⟩
        replace h := lr_inl h; try dsimp only at h
        refine then_n ?_
        refine wp_seq ?_
        refine wp_region_lit ?_
        have R_174 : RepV (.sl (.sl (.int .u8))) w_173 (Kx K w.heap.size [some b_76, some b_5, some b_1]) v_100 (⟨s_99, .none⟩ : Sl (Sl (Int))) := O_101.pubAt W 0 rfl
        replace B_2 : Bx (.st (.pair .bool (.pair (.int .u8) (.pair (.int .i64) (.pair (.sl (.sl (.int .u8))) (.int .i64)))))) 42 w_173 (Kx K w.heap.size [some b_76, some b_5, some b_1]) b_1 x0 := B_2.lessAt 0
        replace B_6 : Bx (.st (.pair (.st (.pair .bool (.pair (.int .u8) (.pair (.int .i64) (.pair .raw (.int .i64)))))) (.pair (.int .i64) (.sl (.st (.pair (.int .i64) (.sl (.int .u8)))))))) 47 w_173 (Kx K w.heap.size [some b_76, some b_5, some b_1]) b_5 ((false, 0, 0, (.slice .none 0 0), 0), 0, ⟨[], some 0⟩) := B_6.lessAt 0
        replace B_77 : Bx (.st (.pair (.st (.pair .bool (.pair (.int .u8) (.pair (.int .i64) (.pair .raw (.int .i64)))))) (.pair (.int .i64) (.sl (.st (.pair (.int .i64) (.sl (.int .u8)))))))) 47 w_173 (Kx K w.heap.size [some b_76, some b_5, some b_1]) b_76 ((x0.1, x0.2.1, x0.2.2.1, v_100, x0.2.2.2.2), x_73, ⟨[], some 0⟩) := B_77.lessAt 0
        replace W : Wd w w_173 [some b_76, some b_5, some b_1] := W.lessAt 0
        replace B_77 : Bx (.st (.pair (.st (.pair .bool (.pair (.int .u8) (.pair (.int .i64) (.pair (.sl (.sl (.int .u8))) (.int .i64)))))) (.pair (.int .i64) (.sl (.st (.pair (.int .i64) (.sl (.int .u8)))))))) 47 w_173 (Kx K w.heap.size [some b_76, some b_5, some b_1]) b_76 ((x0.1, x0.2.1, x0.2.2.1, (⟨s_99, .none⟩ : Sl (Sl (Int))), x0.2.2.2.2), x_73, ⟨[], some 0⟩) := Bx.unrawX (t' := (.st (.pair (.st (.pair .bool (.pair (.int .u8) (.pair (.int .i64) (.pair (.sl (.sl (.int .u8))) (.int .i64)))))) (.pair (.int .i64) (.sl (.st (.pair (.int .i64) (.sl (.int .u8))))))))) (Lx.st (Lx.left (Lx.st (Lx.right (Lx.right (Lx.right (Lx.left Lx.here))))))) B_77 R_174
        refine w_go S rfl (op_load (t := (.st (.pair (.st (.pair .bool (.pair (.int .u8) (.pair (.int .i64) (.pair (.sl (.sl (.int .u8))) (.int .i64)))))) (.pair (.int .i64) (.sl (.st (.pair (.int .i64) (.sl (.int .u8))))))))) (x := ((x0.1, x0.2.1, x0.2.2.1, (⟨s_99, .none⟩ : Sl (Sl (Int))), x0.2.2.2.2), x_73, ⟨[], some 0⟩)) S rfl ty47 rfl rfl rfl B_77.at_ ?_)
        clear S; intro a v_175 R_176 S
        replace B_6 : Bx (.st (.pair (.st (.pair .bool (.pair (.int .u8) (.pair (.int .i64) (.pair (.sl (.sl (.int .u8))) (.int .i64)))))) (.pair (.int .i64) (.sl (.st (.pair (.int .i64) (.sl (.int .u8)))))))) 47 w_173 (Kx K w.heap.size [some b_76, some b_5, some b_1]) b_5 ((false, 0, 0, (⟨[], some 0⟩ : Sl (Sl (Int))), 0), 0, ⟨[], some 0⟩) := Bx.unrawX (t' := (.st (.pair (.st (.pair .bool (.pair (.int .u8) (.pair (.int .i64) (.pair (.sl (.sl (.int .u8))) (.int .i64)))))) (.pair (.int .i64) (.sl (.st (.pair (.int .i64) (.sl (.int .u8))))))))) (Lx.st (Lx.left (Lx.st (Lx.right (Lx.right (Lx.right (Lx.left Lx.here))))))) B_6 RepV.nil
        refine w_go S rfl (op_store (t' := (.st (.pair (.st (.pair .bool (.pair (.int .u8) (.pair (.int .i64) (.pair (.sl (.sl (.int .u8))) (.int .i64)))))) (.pair (.int .i64) (.sl (.st (.pair (.int .i64) (.sl (.int .u8))))))))) S rfl rfl ty47 rfl rfl rfl B_6 (by simp) Ln.whole R_176 ?_)
        intro w_177 hw_178 B_
        replace R_176 := R_176.wrote hw_178 (by simp)
        replace B_2 := B_2.wrote hw_178 (by simp) (W.bne (p := 2) (q := 1) (by decide) rfl rfl)
        replace B_77 := B_77.wrote hw_178 (by simp) (W.bne (p := 0) (q := 1) (by decide) rfl rfl)
        replace W := W.wrote hw_178 (by simp)
        replace B_6 : Bx (.st (.pair (.st (.pair .bool (.pair (.int .u8) (.pair (.int .i64) (.pair (.sl (.sl (.int .u8))) (.int .i64)))))) (.pair (.int .i64) (.sl (.st (.pair (.int .i64) (.sl (.int .u8)))))))) 47 w_177 (Kx K w.heap.size [some b_76, some b_5, some b_1]) b_5 ((x0.1, x0.2.1, x0.2.2.1, (⟨s_99, .none⟩ : Sl (Sl (Int))), x0.2.2.2.2), x_73, ⟨[], some 0⟩) := B_; clear B_
        refine wl_pure (l' := [(3, .int .i64 0), (102, v_175), (2, .pointer (some (⟨b_5, 0, .none⟩ : Addr))), (4, .pointer (some (⟨b_76, 0, .none⟩ : Addr)))]) S tys tys_ok 1 (by kernel_rfl) ?_
        clear S; intro a S
        refine wpList_nil ?_
        refine then_n ?_
        replace S := S.sub (l' := [(3, .int .i64 0), (2, .pointer (some (⟨b_5, 0, .none⟩ : Addr)))]) (by exact ⟨rfl, rfl, trivial⟩)
        refine wp_ret ?_
        obtain ⟨v_179, hr_180, R_181⟩ := res_cell (P := Try.prog) (T := 47) (t := (.st (.pair (.st (.pair .bool (.pair (.int .u8) (.pair (.int .i64) (.pair (.sl (.sl (.int .u8))) (.int .i64)))))) (.pair (.int .i64) (.sl (.st (.pair (.int .i64) (.sl (.int .u8))))))))) (x := ((x0.1, x0.2.1, x0.2.2.1, (⟨s_99, .none⟩ : Sl (Sl (Int))), x0.2.2.2.2), x_73, ⟨[], some 0⟩)) S (s := 2) rfl ty47 B_6.at_
        obtain rfl := Option.some.inj h
        exact b_res2 S rfl hr_180 (res_tmp S rfl) ⟨_, _, rfl, R_181.out, (RepV.mkInt (by decide)), W.below⟩
theorem cb18 : callB Try.prog 18 = true := by kernel_rfl
def p21 (n : Nat) (x0 : (Bool × Int × Int × (Sl (Sl (Int))) × Int) × Int × (Sl (Int × (Sl (Int))))) (x1 : Int × (Sl (Int))) : Option (((Bool × Int × Int × (Sl (Sl (Int))) × Int) × Int × (Sl (Int × (Sl (Int)))))) :=
  (if ((lenI x0.2.2) == x0.2.1) = false then some (x1.1 == 0) else some true).bind fun q_18 =>
  (if q_18 = false then some (decide (x1.1 > 6)) else some true).bind fun q_21 =>
  if q_21 then (some x0) else (idx ([0, 0, 11, 11, 11, 13, 11] : List (Int)) x1.1).bind fun y_41 => (if (y_41 == 0) = true then some x0.1.1 else some false).bind fun q_54 => (if q_54 then ((if (decide ((lenI x1.2) > x0.1.2.2.1)) then (some ([], 13)) else (p25 n x1.2).bind fun t_73 => some (t_73.xs, y_41)).bind fun (j_65 : (List (Int)) × (Int)) => some (j_65.1, j_65.2)) else some ([], y_41)).bind fun (j_57 : (List (Int)) × (Int)) => (sl3I x0.2.2 0 (lenI x0.2.2) (lenI x0.2.2)).bind fun s_91 => (appF s_91 ([(j_57.2, (⟨j_57.1, .none⟩ : Sl (Int)))])).bind fun l_134 => some (x0.1, x0.2.1, (⟨l_134, .none⟩ : Sl (Int × (Sl (Int)))))
set_option maxHeartbeats 4000000 in
set_option maxRecDepth 100000 in
/-- plugboard/periodics.Answer -/
theorem c21 (K : Nat → Prop) (n : Nat) (w : World) (x0 : (Bool × Int × Int × (Sl (Sl (Int))) × Int) × Int × (Sl (Int × (Sl (Int))))) (v0 : Value) (R0 : RepV (.st (.pair (.st (.pair .bool (.pair (.int .u8) (.pair (.int .i64) (.pair (.sl (.sl (.int .u8))) (.int .i64)))))) (.pair (.int .i64) (.sl (.st (.pair (.int .i64) (.sl (.int .u8)))))))) w K v0 x0) (x1 : Int × (Sl (Int))) (v1 : Value) (R1 : RepV (.st (.pair (.int .u8) (.sl (.int .u8)))) w K v1 x1) {r : ((Bool × Int × Int × (Sl (Sl (Int))) × Int) × Int × (Sl (Int × (Sl (Int)))))} (h : p21 n x0 x1 = some r) :
    Calls Try.prog 21 #[v0, v1] w (Ret1 (.st (.pair (.st (.pair .bool (.pair (.int .u8) (.pair (.int .i64) (.pair (.sl (.sl (.int .u8))) (.int .i64)))))) (.pair (.int .i64) (.sl (.st (.pair (.int .i64) (.sl (.int .u8)))))))) w (Kx K w.heap.size []) r) := by
  refine enter (args := [v0, v1]) Try.func21 rfl 64 rfl rfl fun a S => ?_
  have W := Wd.start w
  replace R0 := R0.arg
  replace R1 := R1.arg
  unfold p21 at h
  replace S : St 64 a [(0, v0), (1, v1)] := S
  refine wp_seq ?_
  refine wp_region_lit ?_
  refine w_go S rfl (op_box S rfl rfl rfl rfl rfl R0 ?_)
  clear S; intro a w_3 b_1 hb_4 B_2 S
  replace R0 := R0.box hb_4
  replace R1 := R1.box hb_4
  replace W := W.box hb_4
  refine w_go S rfl (op_box S rfl rfl rfl rfl rfl R1 ?_)
  clear S; intro a w_7 b_5 hb_8 B_6 S
  replace R0 := R0.box hb_8
  replace R1 := R1.box hb_8
  replace B_2 := B_2.box hb_8
  replace W := W.box hb_8
  refine w_go S rfl (op_alloc (K := K) (n := w.heap.size) (L := [some b_5, some b_1]) (t := (.st (.pair (.st (.pair .bool (.pair (.int .u8) (.pair (.int .i64) (.pair (.sl (.sl (.int .u8))) (.int .i64)))))) (.pair (.int .i64) .raw)))) (y := ((false, 0, 0, ⟨[], some 0⟩, 0), 0, (.slice .none 0 0))) S rfl rfl rfl _ z47 (fun w K => ⟨[.bool false, .int .u8 0, .int .i64 0, .slice .none 0 0, .int .i64 0], [.int .i64 0, .slice .none 0 0], rfl, ⟨[.bool false], [.int .u8 0, .int .i64 0, .slice .none 0 0, .int .i64 0], rfl, rfl, ⟨[.int .u8 0], [.int .i64 0, .slice .none 0 0, .int .i64 0], rfl, ⟨rfl, by decide⟩, ⟨[.int .i64 0], [.slice .none 0 0, .int .i64 0], rfl, ⟨rfl, by decide⟩, ⟨[.slice .none 0 0], [.int .i64 0], rfl, ⟨.none, 0, 0, rfl, rfl, Nat.le_refl _, by decide, fun k h => Option.some.inj h, .inl rfl⟩, ⟨rfl, by decide⟩⟩⟩⟩⟩, ⟨[.int .i64 0], [.slice .none 0 0], rfl, ⟨rfl, by decide⟩, ⟨rfl, _, _, _, rfl⟩⟩⟩) ?_)
  clear S; intro a w_11 b_9 hb_12 B_10 S
  replace R0 := R0.box hb_12
  replace R1 := R1.box hb_12
  replace B_2 := B_2.box hb_12
  replace B_6 := B_6.box hb_12
  replace W := W.box hb_12
  refine wpList_nil ?_
  refine then_n ?_
  replace S := S.sub (l' := [(4, .pointer (some (⟨b_9, 0, .none⟩ : Addr))), (3, .pointer (some (⟨b_5, 0, .none⟩ : Addr))), (2, .pointer (some (⟨b_1, 0, .none⟩ : Addr)))]) (by exact ⟨rfl, rfl, rfl, trivial⟩)
  refine wp_seq ?_
  refine wp_seq ?_
  refine wp_region_lit ?_
  refine wl_pure (l' := [(8, .pointer (some ((⟨b_1, 0, .none⟩ : Addr).add (coff (.pair (.st (.pair .bool (.pair (.int .u8) (.pair (.int .i64) (.pair (.sl (.sl (.int .u8))) (.int .i64)))))) (.pair (.int .i64) (.sl (.st (.pair (.int .i64) (.sl (.int .u8))))))) 2)))), (4, .pointer (some (⟨b_9, 0, .none⟩ : Addr))), (3, .pointer (some (⟨b_5, 0, .none⟩ : Addr))), (2, .pointer (some (⟨b_1, 0, .none⟩ : Addr)))]) S tys tys_ok 1 (by kernel_rfl) ?_
  clear S; intro a S
  refine w_go S rfl (op_load (t := (.sl (.st (.pair (.int .i64) (.sl (.int .u8)))))) (x := x0.2.2) S rfl ty45 rfl rfl rfl (RepAt.add 2 (RepAt.st (t := (.pair (.st (.pair .bool (.pair (.int .u8) (.pair (.int .i64) (.pair (.sl (.sl (.int .u8))) (.int .i64)))))) (.pair (.int .i64) (.sl (.st (.pair (.int .i64) (.sl (.int .u8)))))))) B_2.at_)) ?_)
  clear S; intro a v_13 R_14 S
  refine w_go S rfl (op_len (K := _) S rfl ty45 rfl rfl rfl R_14 ?_)
  clear S; intro a G_15 S
  refine wl_pure (l' := [(11, .pointer (some ((⟨b_1, 0, .none⟩ : Addr).add (coff (.pair (.st (.pair .bool (.pair (.int .u8) (.pair (.int .i64) (.pair (.sl (.sl (.int .u8))) (.int .i64)))))) (.pair (.int .i64) (.sl (.st (.pair (.int .i64) (.sl (.int .u8))))))) 1)))), (10, .int .i64 (lenI x0.2.2)), (9, v_13), (8, .pointer (some ((⟨b_1, 0, .none⟩ : Addr).add (coff (.pair (.st (.pair .bool (.pair (.int .u8) (.pair (.int .i64) (.pair (.sl (.sl (.int .u8))) (.int .i64)))))) (.pair (.int .i64) (.sl (.st (.pair (.int .i64) (.sl (.int .u8))))))) 2)))), (4, .pointer (some (⟨b_9, 0, .none⟩ : Addr))), (3, .pointer (some (⟨b_5, 0, .none⟩ : Addr))), (2, .pointer (some (⟨b_1, 0, .none⟩ : Addr)))]) S tys tys_ok 1 (by kernel_rfl) ?_
  clear S; intro a S
  refine w_go S rfl (op_load (t := (.int .i64)) (x := x0.2.1) S rfl ty3 rfl rfl rfl (RepAt.add 1 (RepAt.st (t := (.pair (.st (.pair .bool (.pair (.int .u8) (.pair (.int .i64) (.pair (.sl (.sl (.int .u8))) (.int .i64)))))) (.pair (.int .i64) (.sl (.st (.pair (.int .i64) (.sl (.int .u8)))))))) B_2.at_)) ?_)
  clear S; intro a v_16 R_17 S
  obtain ⟨rfl, GR_17⟩ := RepV.int R_17
  refine wl_pure (l' := [(14, .bool ((lenI x0.2.2) == x0.2.1)), (13, .bool ((lenI x0.2.2) == x0.2.1)), (12, .int .i64 x0.2.1), (11, .pointer (some ((⟨b_1, 0, .none⟩ : Addr).add (coff (.pair (.st (.pair .bool (.pair (.int .u8) (.pair (.int .i64) (.pair (.sl (.sl (.int .u8))) (.int .i64)))))) (.pair (.int .i64) (.sl (.st (.pair (.int .i64) (.sl (.int .u8))))))) 1)))), (10, .int .i64 (lenI x0.2.2)), (9, v_13), (8, .pointer (some ((⟨b_1, 0, .none⟩ : Addr).add (coff (.pair (.st (.pair .bool (.pair (.int .u8) (.pair (.int .i64) (.pair (.sl (.sl (.int .u8))) (.int .i64)))))) (.pair (.int .i64) (.sl (.st (.pair (.int .i64) (.sl (.int .u8))))))) 2)))), (4, .pointer (some (⟨b_9, 0, .none⟩ : Addr))), (3, .pointer (some (⟨b_5, 0, .none⟩ : Addr))), (2, .pointer (some (⟨b_1, 0, .none⟩ : Addr)))]) S tys tys_ok 2 (by kernel_rfl) ?_
  clear S; intro a S
  obtain ⟨q_18, eq_18, h⟩ := bindS h
  refine seg 4 (fun a_ w_ => w_11 = w_ ∧ St 64 a_ [(18, .bool q_18), (4, .pointer (some (⟨b_9, 0, .none⟩ : Addr))), (3, .pointer (some (⟨b_5, 0, .none⟩ : Addr))), (2, .pointer (some (⟨b_1, 0, .none⟩ : Addr)))]) ?_ ?_
  · by_cases hc : ((lenI x0.2.2) == x0.2.1) = false
    · rw [if_pos hc] at eq_18; rw [hc] at S
      refine wl_pure (l' := [(15, .pointer (some ((⟨b_5, 0, .none⟩ : Addr).add (coff (.pair (.int .u8) (.sl (.int .u8))) 0)))), (14, .bool false), (13, .bool false), (12, .int .i64 x0.2.1), (11, .pointer (some ((⟨b_1, 0, .none⟩ : Addr).add (coff (.pair (.st (.pair .bool (.pair (.int .u8) (.pair (.int .i64) (.pair (.sl (.sl (.int .u8))) (.int .i64)))))) (.pair (.int .i64) (.sl (.st (.pair (.int .i64) (.sl (.int .u8))))))) 1)))), (10, .int .i64 (lenI x0.2.2)), (9, v_13), (8, .pointer (some ((⟨b_1, 0, .none⟩ : Addr).add (coff (.pair (.st (.pair .bool (.pair (.int .u8) (.pair (.int .i64) (.pair (.sl (.sl (.int .u8))) (.int .i64)))))) (.pair (.int .i64) (.sl (.st (.pair (.int .i64) (.sl (.int .u8))))))) 2)))), (4, .pointer (some (⟨b_9, 0, .none⟩ : Addr))), (3, .pointer (some (⟨b_5, 0, .none⟩ : Addr))), (2, .pointer (some (⟨b_1, 0, .none⟩ : Addr)))]) S tys tys_ok 1 (by kernel_rfl) ?_
      clear S; intro a S
      refine w_go S rfl (op_load (t := (.int .u8)) (x := x1.1) S rfl ty59 rfl rfl rfl (RepAt.add 0 (RepAt.st (t := (.pair (.int .u8) (.sl (.int .u8)))) B_6.at_)) ?_)
      clear S; intro a v_19 R_20 S
      obtain ⟨rfl, GR_20⟩ := RepV.int R_20
      refine wl_pure (l' := [(18, .bool (x1.1 == 0)), (17, .bool (x1.1 == 0)), (16, .int .u8 x1.1), (15, .pointer (some ((⟨b_5, 0, .none⟩ : Addr).add (coff (.pair (.int .u8) (.sl (.int .u8))) 0)))), (14, .bool false), (13, .bool false), (12, .int .i64 x0.2.1), (11, .pointer (some ((⟨b_1, 0, .none⟩ : Addr).add (coff (.pair (.st (.pair .bool (.pair (.int .u8) (.pair (.int .i64) (.pair (.sl (.sl (.int .u8))) (.int .i64)))))) (.pair (.int .i64) (.sl (.st (.pair (.int .i64) (.sl (.int .u8))))))) 1)))), (10, .int .i64 (lenI x0.2.2)), (9, v_13), (8, .pointer (some ((⟨b_1, 0, .none⟩ : Addr).add (coff (.pair (.st (.pair .bool (.pair (.int .u8) (.pair (.int .i64) (.pair (.sl (.sl (.int .u8))) (.int .i64)))))) (.pair (.int .i64) (.sl (.st (.pair (.int .i64) (.sl (.int .u8))))))) 2)))), (4, .pointer (some (⟨b_9, 0, .none⟩ : Addr))), (3, .pointer (some (⟨b_5, 0, .none⟩ : Addr))), (2, .pointer (some (⟨b_1, 0, .none⟩ : Addr)))]) S tys tys_ok 2 (by kernel_rfl) ?_
      clear S; intro a S
      obtain rfl := Option.some.inj eq_18
      exact ⟨rfl, S.sub (by exact ⟨rfl, rfl, rfl, rfl, trivial⟩)⟩
    · rw [if_neg hc] at eq_18; rw [show ((lenI x0.2.2) == x0.2.1) = true from (by simpa using hc)] at S
      refine wl_pure (l' := [(18, .bool true), (17, undef), (16, undef), (15, undef), (14, .bool true), (13, .bool true), (12, .int .i64 x0.2.1), (11, .pointer (some ((⟨b_1, 0, .none⟩ : Addr).add (coff (.pair (.st (.pair .bool (.pair (.int .u8) (.pair (.int .i64) (.pair (.sl (.sl (.int .u8))) (.int .i64)))))) (.pair (.int .i64) (.sl (.st (.pair (.int .i64) (.sl (.int .u8))))))) 1)))), (10, .int .i64 (lenI x0.2.2)), (9, v_13), (8, .pointer (some ((⟨b_1, 0, .none⟩ : Addr).add (coff (.pair (.st (.pair .bool (.pair (.int .u8) (.pair (.int .i64) (.pair (.sl (.sl (.int .u8))) (.int .i64)))))) (.pair (.int .i64) (.sl (.st (.pair (.int .i64) (.sl (.int .u8))))))) 2)))), (4, .pointer (some (⟨b_9, 0, .none⟩ : Addr))), (3, .pointer (some (⟨b_5, 0, .none⟩ : Addr))), (2, .pointer (some (⟨b_1, 0, .none⟩ : Addr)))]) S tys tys_ok 4 (by kernel_rfl) ?_
      clear S; intro a S
      obtain rfl := Option.some.inj eq_18
      exact ⟨rfl, S.sub (by exact ⟨rfl, rfl, rfl, rfl, trivial⟩)⟩
  clear S eq_18; rintro a _ ⟨rfl, S⟩
  refine wl_pure (l' := [(19, .bool q_18), (18, .bool q_18), (4, .pointer (some (⟨b_9, 0, .none⟩ : Addr))), (3, .pointer (some (⟨b_5, 0, .none⟩ : Addr))), (2, .pointer (some (⟨b_1, 0, .none⟩ : Addr)))]) S tys tys_ok 1 (by kernel_rfl) ?_
  clear S; intro a S
  obtain ⟨q_21, eq_21, h⟩ := bindS h
  refine seg 4 (fun a_ w_ => w_11 = w_ ∧ St 64 a_ [(23, .bool q_21), (4, .pointer (some (⟨b_9, 0, .none⟩ : Addr))), (3, .pointer (some (⟨b_5, 0, .none⟩ : Addr))), (2, .pointer (some (⟨b_1, 0, .none⟩ : Addr)))]) ?_ ?_
  · by_cases hc : q_18 = false
    · rw [if_pos hc] at eq_21; rw [hc] at S
      refine wl_pure (l' := [(20, .pointer (some ((⟨b_5, 0, .none⟩ : Addr).add (coff (.pair (.int .u8) (.sl (.int .u8))) 0)))), (19, .bool false), (18, .bool false), (4, .pointer (some (⟨b_9, 0, .none⟩ : Addr))), (3, .pointer (some (⟨b_5, 0, .none⟩ : Addr))), (2, .pointer (some (⟨b_1, 0, .none⟩ : Addr)))]) S tys tys_ok 1 (by kernel_rfl) ?_
      clear S; intro a S
      refine w_go S rfl (op_load (t := (.int .u8)) (x := x1.1) S rfl ty59 rfl rfl rfl (RepAt.add 0 (RepAt.st (t := (.pair (.int .u8) (.sl (.int .u8)))) B_6.at_)) ?_)
      clear S; intro a v_22 R_23 S
      obtain ⟨rfl, GR_23⟩ := RepV.int R_23
      refine wl_pure (l' := [(23, .bool (decide (x1.1 > 6))), (22, .bool (decide (x1.1 > 6))), (21, .int .u8 x1.1), (20, .pointer (some ((⟨b_5, 0, .none⟩ : Addr).add (coff (.pair (.int .u8) (.sl (.int .u8))) 0)))), (19, .bool false), (18, .bool false), (4, .pointer (some (⟨b_9, 0, .none⟩ : Addr))), (3, .pointer (some (⟨b_5, 0, .none⟩ : Addr))), (2, .pointer (some (⟨b_1, 0, .none⟩ : Addr)))]) S tys tys_ok 2 (by kernel_rfl) ?_
      clear S; intro a S
      obtain rfl := Option.some.inj eq_21
      exact ⟨rfl, S.sub (by exact ⟨rfl, rfl, rfl, rfl, trivial⟩)⟩
    · rw [if_neg hc] at eq_21; rw [show q_18 = true from (by simpa using hc)] at S
      refine wl_pure (l' := [(23, .bool true), (22, undef), (21, undef), (20, undef), (19, .bool true), (18, .bool true), (4, .pointer (some (⟨b_9, 0, .none⟩ : Addr))), (3, .pointer (some (⟨b_5, 0, .none⟩ : Addr))), (2, .pointer (some (⟨b_1, 0, .none⟩ : Addr)))]) S tys tys_ok 4 (by kernel_rfl) ?_
      clear S; intro a S
      obtain rfl := Option.some.inj eq_21
      exact ⟨rfl, S.sub (by exact ⟨rfl, rfl, rfl, rfl, trivial⟩)⟩
  clear S eq_21; rintro a _ ⟨rfl, S⟩
  refine wpList_nil ?_
  refine then_n ?_
  refine wp_cond_split (S.eval (show ev _ _ = some (.bool q_21) from rfl)) ?_ ?_
  · intro hc
    rw [if_pos hc] at h
    refine wp_seq ?_
    refine wp_region_lit ?_
    refine w_go S rfl (op_load (t := (.st (.pair (.st (.pair .bool (.pair (.int .u8) (.pair (.int .i64) (.pair (.sl (.sl (.int .u8))) (.int .i64)))))) (.pair (.int .i64) (.sl (.st (.pair (.int .i64) (.sl (.int .u8))))))))) (x := x0) S rfl ty47 rfl rfl rfl B_2.at_ ?_)
    clear S; intro a v_24 R_25 S
    replace B_10 : Bx (.st (.pair (.st (.pair .bool (.pair (.int .u8) (.pair (.int .i64) (.pair (.sl (.sl (.int .u8))) (.int .i64)))))) (.pair (.int .i64) (.sl (.st (.pair (.int .i64) (.sl (.int .u8)))))))) 47 w_11 (Kx K w.heap.size [some b_9, some b_5, some b_1]) b_9 ((false, 0, 0, ⟨[], some 0⟩, 0), 0, (⟨[], some 0⟩ : Sl (Int × (Sl (Int))))) := Bx.unrawX (t' := (.st (.pair (.st (.pair .bool (.pair (.int .u8) (.pair (.int .i64) (.pair (.sl (.sl (.int .u8))) (.int .i64)))))) (.pair (.int .i64) (.sl (.st (.pair (.int .i64) (.sl (.int .u8))))))))) (Lx.st (Lx.right (Lx.right Lx.here))) B_10 RepV.nil
    refine w_go S rfl (op_store (t' := (.st (.pair (.st (.pair .bool (.pair (.int .u8) (.pair (.int .i64) (.pair (.sl (.sl (.int .u8))) (.int .i64)))))) (.pair (.int .i64) (.sl (.st (.pair (.int .i64) (.sl (.int .u8))))))))) S rfl rfl ty47 rfl rfl rfl B_10 (by simp) Ln.whole R_25 ?_)
    intro w_26 hw_27 B_
    replace R_25 := R_25.wrote hw_27 (by simp)
    replace B_2 := B_2.wrote hw_27 (by simp) (W.bne (p := 2) (q := 0) (by decide) rfl rfl)
    replace B_6 := B_6.wrote hw_27 (by simp) (W.bne (p := 1) (q := 0) (by decide) rfl rfl)
    replace W := W.wrote hw_27 (by simp)
    replace B_10 : Bx (.st (.pair (.st (.pair .bool (.pair (.int .u8) (.pair (.int .i64) (.pair (.sl (.sl (.int .u8))) (.int .i64)))))) (.pair (.int .i64) (.sl (.st (.pair (.int .i64) (.sl (.int .u8)))))))) 47 w_26 (Kx K w.heap.size [some b_9, some b_5, some b_1]) b_9 x0 := B_; clear B_
    refine wpList_nil ?_
    refine then_n ?_
    replace S := S.sub (l' := [(4, .pointer (some (⟨b_9, 0, .none⟩ : Addr)))]) (by exact ⟨rfl, trivial⟩)
    refine wp_ret ?_
    refine then_r ?_
    obtain ⟨v_28, hr_29, R_30⟩ := res_cell (P := Try.prog) (T := 47) (t := (.st (.pair (.st (.pair .bool (.pair (.int .u8) (.pair (.int .i64) (.pair (.sl (.sl (.int .u8))) (.int .i64)))))) (.pair (.int .i64) (.sl (.st (.pair (.int .i64) (.sl (.int .u8))))))))) (x := x0) S (s := 4) rfl ty47 B_10.at_
    obtain rfl := Option.some.inj h
    exact b_res1 S rfl hr_29 ⟨_, rfl, R_30.out, W.below⟩
  · intro hc
    rw [if_neg (Bool.eq_false_iff.1 hc)] at h
    refine wp_skip ?_
    refine then_n ?_
    replace S := S.sub (l' := [(4, .pointer (some (⟨b_9, 0, .none⟩ : Addr))), (3, .pointer (some (⟨b_5, 0, .none⟩ : Addr))), (2, .pointer (some (⟨b_1, 0, .none⟩ : Addr)))]) (by exact ⟨rfl, rfl, rfl, trivial⟩)
    refine wp_seq ?_
    refine wp_region_lit ?_
    refine w_go S rfl (op_build_arr (K := (Kx K w.heap.size [some b_9, some b_5, some b_1])) (m := 7) (e := (.int .i64)) (z0 := (List.replicate 7 0)) (x := [0, 0, 11, 11, 11, 13, 11]) (vs := [.int .i64 0, .int .i64 11, .int .i64 11, .int .i64 11, .int .i64 13, .int .i64 11]) S _ 0 rfl ty69 z69 (fun w K => (rep_replicate (e := (.int .i64)) (z := 0) (cs := [.int .i64 0]) (⟨rfl, by decide⟩) 7)) rfl rfl rfl [(1, .int .i64 0), (2, .int .i64 11), (3, .int .i64 11), (4, .int .i64 11), (5, .int .i64 13), (6, .int .i64 11)] rfl rfl ⟨_, (RepV.mkInt (by decide)), by decide, ⟨_, (RepV.mkInt (by decide)), by decide, ⟨_, (RepV.mkInt (by decide)), by decide, ⟨_, (RepV.mkInt (by decide)), by decide, ⟨_, (RepV.mkInt (by decide)), by decide, ⟨_, (RepV.mkInt (by decide)), by decide, rfl⟩⟩⟩⟩⟩⟩ ?_)
    clear S; intro a v_31 R_32 S
    refine w_go S rfl (op_alloc (K := K) (n := w.heap.size) (L := [some b_9, some b_5, some b_1]) (t := (.arr 7 (.int .i64))) (y := (List.replicate 7 0)) S rfl rfl rfl _ z69 (fun w K => (rep_replicate (e := (.int .i64)) (z := 0) (cs := [.int .i64 0]) (⟨rfl, by decide⟩) 7)) ?_)
    clear S; intro a w_35 b_33 hb_36 B_34 S
    replace R_32 := R_32.box hb_36
    replace B_2 := B_2.box hb_36
    replace B_6 := B_6.box hb_36
    replace B_10 := B_10.box hb_36
    replace W := W.box hb_36
    refine w_go S rfl (op_store (t' := (.arr 7 (.int .i64))) S rfl rfl ty69 rfl rfl rfl B_34 (by simp) Ln.whole R_32 ?_)
    intro w_37 hw_38 B_
    replace R_32 := R_32.wrote hw_38 (by simp)
    replace B_2 := B_2.wrote hw_38 (by simp) (W.bne (p := 3) (q := 0) (by decide) rfl rfl)
    replace B_6 := B_6.wrote hw_38 (by simp) (W.bne (p := 2) (q := 0) (by decide) rfl rfl)
    replace B_10 := B_10.wrote hw_38 (by simp) (W.bne (p := 1) (q := 0) (by decide) rfl rfl)
    replace W := W.wrote hw_38 (by simp)
    replace B_34 : Bx (.arr 7 (.int .i64)) 69 w_37 (Kx K w.heap.size [some b_33, some b_9, some b_5, some b_1]) b_33 ([0, 0, 11, 11, 11, 13, 11] : List (Int)) := B_; clear B_
    refine wpList_nil ?_
    refine then_n ?_
    replace S := S.sub (l' := [(5, .pointer (some (⟨b_33, 0, .none⟩ : Addr))), (4, .pointer (some (⟨b_9, 0, .none⟩ : Addr))), (3, .pointer (some (⟨b_5, 0, .none⟩ : Addr))), (2, .pointer (some (⟨b_1, 0, .none⟩ : Addr)))]) (by exact ⟨rfl, rfl, rfl, rfl, trivial⟩)
    refine wp_seq ?_
    refine wp_region_lit ?_
    refine wl_pure (l' := [(26, .pointer (some ((⟨b_5, 0, .none⟩ : Addr).add (coff (.pair (.int .u8) (.sl (.int .u8))) 0)))), (5, .pointer (some (⟨b_33, 0, .none⟩ : Addr))), (4, .pointer (some (⟨b_9, 0, .none⟩ : Addr))), (3, .pointer (some (⟨b_5, 0, .none⟩ : Addr))), (2, .pointer (some (⟨b_1, 0, .none⟩ : Addr)))]) S tys tys_ok 1 (by kernel_rfl) ?_
    clear S; intro a S
    refine w_go S rfl (op_load (t := (.int .u8)) (x := x1.1) S rfl ty59 rfl rfl rfl (RepAt.add 0 (RepAt.st (t := (.pair (.int .u8) (.sl (.int .u8)))) B_6.at_)) ?_)
    clear S; intro a v_39 R_40 S
    obtain ⟨rfl, GR_40⟩ := RepV.int R_40
    obtain ⟨y_41, ey_41, h⟩ := bindS h
    refine w_go S rfl (op_indexAddr_arr S rfl ty69 rfl rfl rfl B_34.at_ rfl ey_41 ?_)
    clear S; intro a S
    refine w_go S rfl (op_load (t := (.int .i64)) (x := y_41) S rfl ty23 rfl rfl rfl (RepAt.ix B_34.at_ ey_41) ?_)
    clear S; intro a v_42 R_43 S
    obtain ⟨rfl, GR_43⟩ := RepV.int R_43
    refine w_go S rfl (op_build (K := (Kx K w.heap.size [some b_33, some b_9, some b_5, some b_1])) (f := (.pair (.int .i64) .raw)) (z0 := (0, (.slice .none 0 0))) (x := (y_41, (.slice .none 0 0))) (vs := [.int .i64 y_41]) S _ rfl tyw64_1 z64 (fun w K => ⟨[.int .i64 0], [.slice .none 0 0], rfl, ⟨rfl, by decide⟩, ⟨rfl, _, _, _, rfl⟩⟩) rfl rfl rfl [(0, .int .i64 y_41)] rfl ⟨_, (RepV.mkInt GR_43), rfl, rfl, rfl⟩ ?_)
    clear S; intro a v_44 R_45 S
    refine w_go S rfl (op_alloc (K := K) (n := w.heap.size) (L := [some b_33, some b_9, some b_5, some b_1]) (t := (.st (.pair (.int .i64) .raw))) (y := (0, (.slice .none 0 0))) S rfl rfl rfl _ z64 (fun w K => ⟨[.int .i64 0], [.slice .none 0 0], rfl, ⟨rfl, by decide⟩, ⟨rfl, _, _, _, rfl⟩⟩) ?_)
    clear S; intro a w_48 b_46 hb_49 B_47 S
    replace R_45 := R_45.box hb_49
    replace B_2 := B_2.box hb_49
    replace B_6 := B_6.box hb_49
    replace B_10 := B_10.box hb_49
    replace B_34 := B_34.box hb_49
    replace W := W.box hb_49
    refine w_go S rfl (op_store (t' := (.st (.pair (.int .i64) .raw))) S rfl rfl tyw64_1 rfl rfl rfl B_47 (by simp) Ln.whole R_45 ?_)
    intro w_50 hw_51 B_
    replace R_45 := R_45.wrote hw_51 (by simp)
    replace B_2 := B_2.wrote hw_51 (by simp) (W.bne (p := 4) (q := 0) (by decide) rfl rfl)
    replace B_6 := B_6.wrote hw_51 (by simp) (W.bne (p := 3) (q := 0) (by decide) rfl rfl)
    replace B_10 := B_10.wrote hw_51 (by simp) (W.bne (p := 2) (q := 0) (by decide) rfl rfl)
    replace B_34 := B_34.wrote hw_51 (by simp) (W.bne (p := 1) (q := 0) (by decide) rfl rfl)
    replace W := W.wrote hw_51 (by simp)
    replace B_47 : Bx (.st (.pair (.int .i64) .raw)) 64 w_50 (Kx K w.heap.size [some b_46, some b_33, some b_9, some b_5, some b_1]) b_46 (y_41, (.slice .none 0 0)) := B_; clear B_
    refine wpList_nil ?_
    refine then_n ?_
    replace S := S.sub (l' := [(6, .pointer (some (⟨b_46, 0, .none⟩ : Addr))), (4, .pointer (some (⟨b_9, 0, .none⟩ : Addr))), (3, .pointer (some (⟨b_5, 0, .none⟩ : Addr))), (2, .pointer (some (⟨b_1, 0, .none⟩ : Addr)))]) (by exact ⟨rfl, rfl, rfl, rfl, trivial⟩)
    refine wp_seq ?_
    refine wp_seq ?_
    refine wp_region_lit ?_
    refine wl_pure (l' := [(31, .pointer (some ((⟨b_46, 0, .none⟩ : Addr).add (coff (.pair (.int .i64) (.sl (.int .u8))) 0)))), (6, .pointer (some (⟨b_46, 0, .none⟩ : Addr))), (4, .pointer (some (⟨b_9, 0, .none⟩ : Addr))), (3, .pointer (some (⟨b_5, 0, .none⟩ : Addr))), (2, .pointer (some (⟨b_1, 0, .none⟩ : Addr)))]) S tys tys_ok 1 (by kernel_rfl) ?_
    clear S; intro a S
    refine w_go S rfl (op_load (t := (.int .i64)) (x := y_41) S rfl ty23 rfl rfl rfl (RepAt.add 0 (RepAt.st (t := (.pair (.int .i64) .raw)) B_47.at_)) ?_)
    clear S; intro a v_52 R_53 S
    obtain ⟨rfl, GR_53⟩ := RepV.int R_53
    refine wl_pure (l' := [(34, .bool (y_41 == 0)), (33, .bool (y_41 == 0)), (32, .int .i64 y_41), (31, .pointer (some ((⟨b_46, 0, .none⟩ : Addr).add (coff (.pair (.int .i64) (.sl (.int .u8))) 0)))), (6, .pointer (some (⟨b_46, 0, .none⟩ : Addr))), (4, .pointer (some (⟨b_9, 0, .none⟩ : Addr))), (3, .pointer (some (⟨b_5, 0, .none⟩ : Addr))), (2, .pointer (some (⟨b_1, 0, .none⟩ : Addr)))]) S tys tys_ok 2 (by kernel_rfl) ?_
    clear S; intro a S
    obtain ⟨q_54, eq_54, h⟩ := bindS h
    refine seg 4 (fun a_ w_ => w_50 = w_ ∧ St 64 a_ [(38, .bool q_54), (6, .pointer (some (⟨b_46, 0, .none⟩ : Addr))), (4, .pointer (some (⟨b_9, 0, .none⟩ : Addr))), (3, .pointer (some (⟨b_5, 0, .none⟩ : Addr))), (2, .pointer (some (⟨b_1, 0, .none⟩ : Addr)))]) ?_ ?_
    · by_cases hc : (y_41 == 0) = true
      · rw [if_pos hc] at eq_54; rw [hc] at S
        refine wl_pure (l' := [(36, .pointer (some (((⟨b_1, 0, .none⟩ : Addr).add (coff (.pair (.st (.pair .bool (.pair (.int .u8) (.pair (.int .i64) (.pair (.sl (.sl (.int .u8))) (.int .i64)))))) (.pair (.int .i64) (.sl (.st (.pair (.int .i64) (.sl (.int .u8))))))) 0)).add (coff (.pair .bool (.pair (.int .u8) (.pair (.int .i64) (.pair (.sl (.sl (.int .u8))) (.int .i64))))) 0)))), (35, .pointer (some ((⟨b_1, 0, .none⟩ : Addr).add (coff (.pair (.st (.pair .bool (.pair (.int .u8) (.pair (.int .i64) (.pair (.sl (.sl (.int .u8))) (.int .i64)))))) (.pair (.int .i64) (.sl (.st (.pair (.int .i64) (.sl (.int .u8))))))) 0)))), (34, .bool true), (33, .bool true), (32, .int .i64 y_41), (31, .pointer (some ((⟨b_46, 0, .none⟩ : Addr).add (coff (.pair (.int .i64) (.sl (.int .u8))) 0)))), (6, .pointer (some (⟨b_46, 0, .none⟩ : Addr))), (4, .pointer (some (⟨b_9, 0, .none⟩ : Addr))), (3, .pointer (some (⟨b_5, 0, .none⟩ : Addr))), (2, .pointer (some (⟨b_1, 0, .none⟩ : Addr)))]) S tys tys_ok 2 (by kernel_rfl) ?_
        clear S; intro a S
        refine w_go S rfl (op_load (t := .bool) (x := x0.1.1) S rfl ty4 rfl rfl rfl (RepAt.add 0 (RepAt.st (t := (.pair .bool (.pair (.int .u8) (.pair (.int .i64) (.pair (.sl (.sl (.int .u8))) (.int .i64)))))) (RepAt.add 0 (RepAt.st (t := (.pair (.st (.pair .bool (.pair (.int .u8) (.pair (.int .i64) (.pair (.sl (.sl (.int .u8))) (.int .i64)))))) (.pair (.int .i64) (.sl (.st (.pair (.int .i64) (.sl (.int .u8)))))))) B_2.at_)))) ?_)
        clear S; intro a v_55 R_56 S
        obtain rfl := RepV.bool R_56
        refine wl_pure (l' := [(38, .bool x0.1.1), (37, .bool x0.1.1), (36, .pointer (some (((⟨b_1, 0, .none⟩ : Addr).add (coff (.pair (.st (.pair .bool (.pair (.int .u8) (.pair (.int .i64) (.pair (.sl (.sl (.int .u8))) (.int .i64)))))) (.pair (.int .i64) (.sl (.st (.pair (.int .i64) (.sl (.int .u8))))))) 0)).add (coff (.pair .bool (.pair (.int .u8) (.pair (.int .i64) (.pair (.sl (.sl (.int .u8))) (.int .i64))))) 0)))), (35, .pointer (some ((⟨b_1, 0, .none⟩ : Addr).add (coff (.pair (.st (.pair .bool (.pair (.int .u8) (.pair (.int .i64) (.pair (.sl (.sl (.int .u8))) (.int .i64)))))) (.pair (.int .i64) (.sl (.st (.pair (.int .i64) (.sl (.int .u8))))))) 0)))), (34, .bool true), (33, .bool true), (32, .int .i64 y_41), (31, .pointer (some ((⟨b_46, 0, .none⟩ : Addr).add (coff (.pair (.int .i64) (.sl (.int .u8))) 0)))), (6, .pointer (some (⟨b_46, 0, .none⟩ : Addr))), (4, .pointer (some (⟨b_9, 0, .none⟩ : Addr))), (3, .pointer (some (⟨b_5, 0, .none⟩ : Addr))), (2, .pointer (some (⟨b_1, 0, .none⟩ : Addr)))]) S tys tys_ok 1 (by kernel_rfl) ?_
        clear S; intro a S
        obtain rfl := Option.some.inj eq_54
        exact ⟨rfl, S.sub (by exact ⟨rfl, rfl, rfl, rfl, rfl, trivial⟩)⟩
      · rw [if_neg hc] at eq_54; rw [show (y_41 == 0) = false from Bool.eq_false_iff.2 hc] at S
        refine wl_pure (l' := [(38, .bool false), (37, undef), (36, undef), (35, undef), (34, .bool false), (33, .bool false), (32, .int .i64 y_41), (31, .pointer (some ((⟨b_46, 0, .none⟩ : Addr).add (coff (.pair (.int .i64) (.sl (.int .u8))) 0)))), (6, .pointer (some (⟨b_46, 0, .none⟩ : Addr))), (4, .pointer (some (⟨b_9, 0, .none⟩ : Addr))), (3, .pointer (some (⟨b_5, 0, .none⟩ : Addr))), (2, .pointer (some (⟨b_1, 0, .none⟩ : Addr)))]) S tys tys_ok 4 (by kernel_rfl) ?_
        clear S; intro a S
        obtain rfl := Option.some.inj eq_54
        exact ⟨rfl, S.sub (by exact ⟨rfl, rfl, rfl, rfl, rfl, trivial⟩)⟩
    clear S eq_54; rintro a _ ⟨rfl, S⟩
    refine wpList_nil ?_
    refine then_n ?_
    obtain ⟨j_57, ej_57, h⟩ := bindS h
    refine wp_cut_ (fun a_ w_ => ∃ (v_58 : Value), St 64 a_ [(6, .pointer (some (⟨b_46, 0, .none⟩ : Addr))), (4, .pointer (some (⟨b_9, 0, .none⟩ : Addr))), (2, .pointer (some (⟨b_1, 0, .none⟩ : Addr)))] ∧ Wd w w_ [v_58.ownBlock, some b_46, some b_33, some b_9, some b_5, some b_1] ∧ Bx (.st (.pair (.st (.pair .bool (.pair (.int .u8) (.pair (.int .i64) (.pair (.sl (.sl (.int .u8))) (.int .i64)))))) (.pair (.int .i64) (.sl (.st (.pair (.int .i64) (.sl (.int .u8)))))))) 47 w_ (Kx K w.heap.size [v_58.ownBlock, some b_46, some b_33, some b_9, some b_5, some b_1]) b_1 x0 ∧ Bx (.st (.pair (.int .u8) (.sl (.int .u8)))) 61 w_ (Kx K w.heap.size [v_58.ownBlock, some b_46, some b_33, some b_9, some b_5, some b_1]) b_5 x1 ∧ Bx (.st (.pair (.st (.pair .bool (.pair (.int .u8) (.pair (.int .i64) (.pair (.sl (.sl (.int .u8))) (.int .i64)))))) (.pair (.int .i64) .raw))) 47 w_ (Kx K w.heap.size [v_58.ownBlock, some b_46, some b_33, some b_9, some b_5, some b_1]) b_9 ((false, 0, 0, ⟨[], some 0⟩, 0), 0, (.slice .none 0 0)) ∧ Bx (.arr 7 (.int .i64)) 69 w_ (Kx K w.heap.size [v_58.ownBlock, some b_46, some b_33, some b_9, some b_5, some b_1]) b_33 ([0, 0, 11, 11, 11, 13, 11] : List (Int)) ∧ Bx (.st (.pair (.int .i64) .raw)) 64 w_ (Kx K w.heap.size [v_58.ownBlock, some b_46, some b_33, some b_9, some b_5, some b_1]) b_46 (j_57.2, v_58) ∧ Ow (.int .u8) 5 w_ w.heap.size (Kx K w.heap.size [v_58.ownBlock, some b_46, some b_33, some b_9, some b_5, some b_1]) v_58 j_57.1 .none) ?_ ?_
    · refine wp_cond_split (S.eval (show ev _ _ = some (.bool q_54) from rfl)) ?_ ?_
      · intro hc
        rw [if_pos hc] at ej_57
        refine wp_seq ?_
        refine wp_region_lit ?_
        refine wl_pure (l' := [(39, .pointer (some ((⟨b_5, 0, .none⟩ : Addr).add (coff (.pair (.int .u8) (.sl (.int .u8))) 1)))), (38, .bool q_54), (6, .pointer (some (⟨b_46, 0, .none⟩ : Addr))), (4, .pointer (some (⟨b_9, 0, .none⟩ : Addr))), (3, .pointer (some (⟨b_5, 0, .none⟩ : Addr))), (2, .pointer (some (⟨b_1, 0, .none⟩ : Addr)))]) S tys tys_ok 1 (by kernel_rfl) ?_
        clear S; intro a S
        refine w_go S rfl (op_load (t := (.sl (.int .u8))) (x := x1.2) S rfl ty51 rfl rfl rfl (RepAt.add 1 (RepAt.st (t := (.pair (.int .u8) (.sl (.int .u8)))) B_6.at_)) ?_)
        clear S; intro a v_60 R_61 S
        refine w_go S rfl (op_len (K := _) S rfl ty51 rfl rfl rfl R_61 ?_)
        clear S; intro a G_62 S
        refine wl_pure (l' := [(43, .pointer (some (((⟨b_1, 0, .none⟩ : Addr).add (coff (.pair (.st (.pair .bool (.pair (.int .u8) (.pair (.int .i64) (.pair (.sl (.sl (.int .u8))) (.int .i64)))))) (.pair (.int .i64) (.sl (.st (.pair (.int .i64) (.sl (.int .u8))))))) 0)).add (coff (.pair .bool (.pair (.int .u8) (.pair (.int .i64) (.pair (.sl (.sl (.int .u8))) (.int .i64))))) 2)))), (42, .pointer (some ((⟨b_1, 0, .none⟩ : Addr).add (coff (.pair (.st (.pair .bool (.pair (.int .u8) (.pair (.int .i64) (.pair (.sl (.sl (.int .u8))) (.int .i64)))))) (.pair (.int .i64) (.sl (.st (.pair (.int .i64) (.sl (.int .u8))))))) 0)))), (41, .int .i64 (lenI x1.2)), (40, v_60), (39, .pointer (some ((⟨b_5, 0, .none⟩ : Addr).add (coff (.pair (.int .u8) (.sl (.int .u8))) 1)))), (38, .bool q_54), (6, .pointer (some (⟨b_46, 0, .none⟩ : Addr))), (4, .pointer (some (⟨b_9, 0, .none⟩ : Addr))), (3, .pointer (some (⟨b_5, 0, .none⟩ : Addr))), (2, .pointer (some (⟨b_1, 0, .none⟩ : Addr)))]) S tys tys_ok 2 (by kernel_rfl) ?_
        clear S; intro a S
        refine w_go S rfl (op_load (t := (.int .i64)) (x := x0.1.2.2.1) S rfl ty3 rfl rfl rfl (RepAt.add 2 (RepAt.st (t := (.pair .bool (.pair (.int .u8) (.pair (.int .i64) (.pair (.sl (.sl (.int .u8))) (.int .i64)))))) (RepAt.add 0 (RepAt.st (t := (.pair (.st (.pair .bool (.pair (.int .u8) (.pair (.int .i64) (.pair (.sl (.sl (.int .u8))) (.int .i64)))))) (.pair (.int .i64) (.sl (.st (.pair (.int .i64) (.sl (.int .u8)))))))) B_2.at_)))) ?_)
        clear S; intro a v_63 R_64 S
        obtain ⟨rfl, GR_64⟩ := RepV.int R_64
        refine wl_pure (l' := [(45, .bool (decide ((lenI x1.2) > x0.1.2.2.1))), (44, .int .i64 x0.1.2.2.1), (43, .pointer (some (((⟨b_1, 0, .none⟩ : Addr).add (coff (.pair (.st (.pair .bool (.pair (.int .u8) (.pair (.int .i64) (.pair (.sl (.sl (.int .u8))) (.int .i64)))))) (.pair (.int .i64) (.sl (.st (.pair (.int .i64) (.sl (.int .u8))))))) 0)).add (coff (.pair .bool (.pair (.int .u8) (.pair (.int .i64) (.pair (.sl (.sl (.int .u8))) (.int .i64))))) 2)))), (42, .pointer (some ((⟨b_1, 0, .none⟩ : Addr).add (coff (.pair (.st (.pair .bool (.pair (.int .u8) (.pair (.int .i64) (.pair (.sl (.sl (.int .u8))) (.int .i64)))))) (.pair (.int .i64) (.sl (.st (.pair (.int .i64) (.sl (.int .u8))))))) 0)))), (41, .int .i64 (lenI x1.2)), (40, v_60), (39, .pointer (some ((⟨b_5, 0, .none⟩ : Addr).add (coff (.pair (.int .u8) (.sl (.int .u8))) 1)))), (38, .bool q_54), (6, .pointer (some (⟨b_46, 0, .none⟩ : Addr))), (4, .pointer (some (⟨b_9, 0, .none⟩ : Addr))), (3, .pointer (some (⟨b_5, 0, .none⟩ : Addr))), (2, .pointer (some (⟨b_1, 0, .none⟩ : Addr)))]) S tys tys_ok 1 (by kernel_rfl) ?_
        clear S; intro a S
        refine wpList_nil ?_
        refine then_n ?_
        replace S := S.sub (l' := [(45, .bool (decide ((lenI x1.2) > x0.1.2.2.1))), (6, .pointer (some (⟨b_46, 0, .none⟩ : Addr))), (4, .pointer (some (⟨b_9, 0, .none⟩ : Addr))), (3, .pointer (some (⟨b_5, 0, .none⟩ : Addr))), (2, .pointer (some (⟨b_1, 0, .none⟩ : Addr)))]) (by exact ⟨rfl, rfl, rfl, rfl, rfl, trivial⟩)
        obtain ⟨j_65, ej_65, ej_57⟩ := bindS ej_57
        refine wp_cut_ (fun a_ w_ => ∃ (v_66 : Value), St 64 a_ [(6, .pointer (some (⟨b_46, 0, .none⟩ : Addr))), (4, .pointer (some (⟨b_9, 0, .none⟩ : Addr))), (2, .pointer (some (⟨b_1, 0, .none⟩ : Addr)))] ∧ Wd w w_ [v_66.ownBlock, some b_46, some b_33, some b_9, some b_5, some b_1] ∧ Bx (.st (.pair (.st (.pair .bool (.pair (.int .u8) (.pair (.int .i64) (.pair (.sl (.sl (.int .u8))) (.int .i64)))))) (.pair (.int .i64) (.sl (.st (.pair (.int .i64) (.sl (.int .u8)))))))) 47 w_ (Kx K w.heap.size [v_66.ownBlock, some b_46, some b_33, some b_9, some b_5, some b_1]) b_1 x0 ∧ Bx (.st (.pair (.int .u8) (.sl (.int .u8)))) 61 w_ (Kx K w.heap.size [v_66.ownBlock, some b_46, some b_33, some b_9, some b_5, some b_1]) b_5 x1 ∧ Bx (.st (.pair (.st (.pair .bool (.pair (.int .u8) (.pair (.int .i64) (.pair (.sl (.sl (.int .u8))) (.int .i64)))))) (.pair (.int .i64) .raw))) 47 w_ (Kx K w.heap.size [v_66.ownBlock, some b_46, some b_33, some b_9, some b_5, some b_1]) b_9 ((false, 0, 0, ⟨[], some 0⟩, 0), 0, (.slice .none 0 0)) ∧ Bx (.arr 7 (.int .i64)) 69 w_ (Kx K w.heap.size [v_66.ownBlock, some b_46, some b_33, some b_9, some b_5, some b_1]) b_33 ([0, 0, 11, 11, 11, 13, 11] : List (Int)) ∧ Bx (.st (.pair (.int .i64) .raw)) 64 w_ (Kx K w.heap.size [v_66.ownBlock, some b_46, some b_33, some b_9, some b_5, some b_1]) b_46 (j_65.2, v_66) ∧ Ow (.int .u8) 5 w_ w.heap.size (Kx K w.heap.size [v_66.ownBlock, some b_46, some b_33, some b_9, some b_5, some b_1]) v_66 j_65.1 .none) ?_ ?_
        · refine wp_cond_split (S.eval (show ev _ _ = some (.bool (decide ((lenI x1.2) > x0.1.2.2.1))) from rfl)) ?_ ?_
          · intro hc
            rw [if_pos hc] at ej_65
            refine wp_region_lit ?_
            refine wl_pure (l' := [(46, .pointer (some ((⟨b_46, 0, .none⟩ : Addr).add (coff (.pair (.int .i64) (.sl (.int .u8))) 0)))), (45, .bool (decide ((lenI x1.2) > x0.1.2.2.1))), (6, .pointer (some (⟨b_46, 0, .none⟩ : Addr))), (4, .pointer (some (⟨b_9, 0, .none⟩ : Addr))), (3, .pointer (some (⟨b_5, 0, .none⟩ : Addr))), (2, .pointer (some (⟨b_1, 0, .none⟩ : Addr)))]) S tys tys_ok 1 (by kernel_rfl) ?_
            clear S; intro a S
            refine w_go S rfl (op_store (t' := (.int .i64)) S rfl rfl ty23 rfl (addr_add1 _ _) rfl B_47 (by simp) (Ln.st (Ln.comp 0)) ((RepV.mkInt (by decide)) : RepV (.int .i64) w_50 (Kx K w.heap.size [some b_46, some b_33, some b_9, some b_5, some b_1]) _ 13) ?_)
            intro w_68 hw_69 B_
            replace B_2 := B_2.wrote hw_69 (by simp) (W.bne (p := 4) (q := 0) (by decide) rfl rfl)
            replace B_6 := B_6.wrote hw_69 (by simp) (W.bne (p := 3) (q := 0) (by decide) rfl rfl)
            replace B_10 := B_10.wrote hw_69 (by simp) (W.bne (p := 2) (q := 0) (by decide) rfl rfl)
            replace B_34 := B_34.wrote hw_69 (by simp) (W.bne (p := 1) (q := 0) (by decide) rfl rfl)
            replace W := W.wrote hw_69 (by simp)
            replace B_47 : Bx (.st (.pair (.int .i64) .raw)) 64 w_68 (Kx K w.heap.size [some b_46, some b_33, some b_9, some b_5, some b_1]) b_46 (13, (.slice .none 0 0)) := B_; clear B_
            refine wpList_nil ?_
            refine then_n ?_
            obtain rfl := Option.some.inj ej_65
            replace B_2 := B_2.more
            replace B_6 := B_6.more
            replace B_10 := B_10.more
            replace B_34 := B_34.more
            replace B_47 := B_47.more
            replace W := W.more
            have O_70 : Ow (.int .u8) 5 w_68 w.heap.size (Kx K w.heap.size [.none, some b_46, some b_33, some b_9, some b_5, some b_1]) (.slice .none 0 0) ([] : List (Int)) (some 0) := Ow.nil
            exact ⟨(.slice .none 0 0), S.sub (by exact ⟨rfl, rfl, rfl, trivial⟩), W, B_2, B_6, B_10, B_34, B_47, O_70.forget⟩
          · intro hc
            rw [if_neg (Bool.eq_false_iff.1 hc)] at ej_65
            refine wp_region_lit ?_
            refine wl_pure (l' := [(47, .pointer (some ((⟨b_5, 0, .none⟩ : Addr).add (coff (.pair (.int .u8) (.sl (.int .u8))) 1)))), (45, .bool (decide ((lenI x1.2) > x0.1.2.2.1))), (6, .pointer (some (⟨b_46, 0, .none⟩ : Addr))), (4, .pointer (some (⟨b_9, 0, .none⟩ : Addr))), (3, .pointer (some (⟨b_5, 0, .none⟩ : Addr))), (2, .pointer (some (⟨b_1, 0, .none⟩ : Addr)))]) S tys tys_ok 1 (by kernel_rfl) ?_
            clear S; intro a S
            refine w_go S rfl (op_load (t := (.sl (.int .u8))) (x := x1.2) S rfl ty51 rfl rfl rfl (RepAt.add 1 (RepAt.st (t := (.pair (.int .u8) (.sl (.int .u8)))) B_6.at_)) ?_)
            clear S; intro a v_71 R_72 S
            obtain ⟨t_73, et_73, ej_65⟩ := bindS ej_65
            refine w_go S rfl (op_call (vs := [v_71]) S rfl cb25 rfl rfl rfl (c25 (Kx K w.heap.size [some b_46, some b_33, some b_9, some b_5, some b_1]) n w_50 x1.2 _ R_72 et_73) ?_)
            rintro _ w_77 ⟨v_74, rfl, R_75, hb_76⟩; refine ⟨_, rfl, ?_⟩
            have NO_ := newO_of R_75 (Nat.le_refl _) hb_76
            replace R_75 := Ow.backO R_75 W
            clear S; intro a S
            replace R_72 := R_72.newO NO_
            replace B_2 := B_2.newO NO_
            replace B_6 := B_6.newO NO_
            replace B_10 := B_10.newO NO_
            replace B_34 := B_34.newO NO_
            replace B_47 := B_47.newO NO_
            replace W := W.newO NO_
            clear NO_
            refine wl_pure (l' := [(50, .pointer (some ((⟨b_46, 0, .none⟩ : Addr).add (coff (.pair (.int .i64) (.sl (.int .u8))) 1)))), (49, v_74), (48, v_71), (47, .pointer (some ((⟨b_5, 0, .none⟩ : Addr).add (coff (.pair (.int .u8) (.sl (.int .u8))) 1)))), (45, .bool (decide ((lenI x1.2) > x0.1.2.2.1))), (6, .pointer (some (⟨b_46, 0, .none⟩ : Addr))), (4, .pointer (some (⟨b_9, 0, .none⟩ : Addr))), (3, .pointer (some (⟨b_5, 0, .none⟩ : Addr))), (2, .pointer (some (⟨b_1, 0, .none⟩ : Addr)))]) S tys tys_ok 1 (by kernel_rfl) ?_
            clear S; intro a S
            refine w_go S rfl (op_store (t' := .raw) S rfl rfl tyr51 rfl (addr_add1 _ _) rfl B_47 (by simp) (Ln.st (Ln.comp 1)) R_75.raw ?_)
            intro w_78 hw_79 B_
            replace R_72 := R_72.wrote hw_79 (by simp)
            replace B_2 := B_2.wrote hw_79 (by simp) (W.bne (p := 5) (q := 1) (by decide) rfl rfl)
            replace B_6 := B_6.wrote hw_79 (by simp) (W.bne (p := 4) (q := 1) (by decide) rfl rfl)
            replace B_10 := B_10.wrote hw_79 (by simp) (W.bne (p := 3) (q := 1) (by decide) rfl rfl)
            replace B_34 := B_34.wrote hw_79 (by simp) (W.bne (p := 2) (q := 1) (by decide) rfl rfl)
            replace R_75 := R_75.wrote hw_79 (by simp) (W.one (p := 0) (q := 1) (by decide) rfl rfl)
            replace W := W.wrote hw_79 (by simp)
            replace B_47 : Bx (.st (.pair (.int .i64) .raw)) 64 w_78 (Kx K w.heap.size [v_74.ownBlock, some b_46, some b_33, some b_9, some b_5, some b_1]) b_46 (y_41, v_74) := B_; clear B_
            refine wpList_nil ?_
            refine then_n ?_
            obtain rfl := Option.some.inj ej_65
            exact ⟨v_74, S.sub (by exact ⟨rfl, rfl, rfl, trivial⟩), W, B_2, B_6, B_10, B_34, B_47, R_75.forget⟩
        clear S W; rintro a w_80 ⟨v_66, S, W, B_2, B_6, B_10, B_34, B_47, O_67⟩
        refine then_n ?_
        obtain rfl := Option.some.inj ej_57
        exact ⟨v_66, S.sub (by exact ⟨rfl, rfl, rfl, trivial⟩), W, B_2, B_6, B_10, B_34, B_47, O_67⟩
      · intro hc
        rw [if_neg (Bool.eq_false_iff.1 hc)] at ej_57
        refine wp_skip ?_
        refine then_n ?_
        obtain rfl := Option.some.inj ej_57
        replace B_2 := B_2.more
        replace B_6 := B_6.more
        replace B_10 := B_10.more
        replace B_34 := B_34.more
        replace B_47 := B_47.more
        replace W := W.more
        have O_81 : Ow (.int .u8) 5 w_50 w.heap.size (Kx K w.heap.size [.none, some b_46, some b_33, some b_9, some b_5, some b_1]) (.slice .none 0 0) ([] : List (Int)) (some 0) := Ow.nil
        exact ⟨(.slice .none 0 0), S.sub (by exact ⟨rfl, rfl, rfl, trivial⟩), W, B_2, B_6, B_10, B_34, B_47, O_81.forget⟩
    clear S W; rintro a w_82 ⟨v_58, S, W, B_2, B_6, B_10, B_34, B_47, O_59⟩
    refine then_n ?_
    refine wp_seq ?_
    refine wp_region_lit ?_
    refine wl_pure (l' := [(51, .pointer (some ((⟨b_1, 0, .none⟩ : Addr).add (coff (.pair (.st (.pair .bool (.pair (.int .u8) (.pair (.int .i64) (.pair (.sl (.sl (.int .u8))) (.int .i64)))))) (.pair (.int .i64) (.sl (.st (.pair (.int .i64) (.sl (.int .u8))))))) 2)))), (6, .pointer (some (⟨b_46, 0, .none⟩ : Addr))), (4, .pointer (some (⟨b_9, 0, .none⟩ : Addr))), (2, .pointer (some (⟨b_1, 0, .none⟩ : Addr)))]) S tys tys_ok 1 (by kernel_rfl) ?_
    clear S; intro a S
    refine w_go S rfl (op_load (t := (.sl (.st (.pair (.int .i64) (.sl (.int .u8)))))) (x := x0.2.2) S rfl ty45 rfl rfl rfl (RepAt.add 2 (RepAt.st (t := (.pair (.st (.pair .bool (.pair (.int .u8) (.pair (.int .i64) (.pair (.sl (.sl (.int .u8))) (.int .i64)))))) (.pair (.int .i64) (.sl (.st (.pair (.int .i64) (.sl (.int .u8)))))))) B_2.at_)) ?_)
    clear S; intro a v_83 R_84 S
    refine w_go S rfl (op_len (K := _) S rfl ty45 rfl rfl rfl R_84 ?_)
    clear S; intro a G_85 S
    refine wl_pure (l' := [(7, .int .i64 (lenI x0.2.2)), (53, .int .i64 (lenI x0.2.2)), (52, v_83), (51, .pointer (some ((⟨b_1, 0, .none⟩ : Addr).add (coff (.pair (.st (.pair .bool (.pair (.int .u8) (.pair (.int .i64) (.pair (.sl (.sl (.int .u8))) (.int .i64)))))) (.pair (.int .i64) (.sl (.st (.pair (.int .i64) (.sl (.int .u8))))))) 2)))), (6, .pointer (some (⟨b_46, 0, .none⟩ : Addr))), (4, .pointer (some (⟨b_9, 0, .none⟩ : Addr))), (2, .pointer (some (⟨b_1, 0, .none⟩ : Addr)))]) S tys tys_ok 1 (by kernel_rfl) ?_
    clear S; intro a S
    refine wpList_nil ?_
    refine then_n ?_
    replace S := S.sub (l' := [(7, .int .i64 (lenI x0.2.2)), (6, .pointer (some (⟨b_46, 0, .none⟩ : Addr))), (4, .pointer (some (⟨b_9, 0, .none⟩ : Addr))), (2, .pointer (some (⟨b_1, 0, .none⟩ : Addr)))]) (by exact ⟨rfl, rfl, rfl, rfl, trivial⟩)
    refine wp_seq ?_
    have R_86 : RepV (.sl (.int .u8)) w_82 (Kx K w.heap.size [some b_46, some b_33, some b_9, some b_5, some b_1]) v_58 (⟨j_57.1, .none⟩ : Sl (Int)) := O_59.pubAt W 0 rfl
    replace B_2 : Bx (.st (.pair (.st (.pair .bool (.pair (.int .u8) (.pair (.int .i64) (.pair (.sl (.sl (.int .u8))) (.int .i64)))))) (.pair (.int .i64) (.sl (.st (.pair (.int .i64) (.sl (.int .u8)))))))) 47 w_82 (Kx K w.heap.size [some b_46, some b_33, some b_9, some b_5, some b_1]) b_1 x0 := B_2.lessAt 0
    replace B_6 : Bx (.st (.pair (.int .u8) (.sl (.int .u8)))) 61 w_82 (Kx K w.heap.size [some b_46, some b_33, some b_9, some b_5, some b_1]) b_5 x1 := B_6.lessAt 0
    replace B_10 : Bx (.st (.pair (.st (.pair .bool (.pair (.int .u8) (.pair (.int .i64) (.pair (.sl (.sl (.int .u8))) (.int .i64)))))) (.pair (.int .i64) .raw))) 47 w_82 (Kx K w.heap.size [some b_46, some b_33, some b_9, some b_5, some b_1]) b_9 ((false, 0, 0, ⟨[], some 0⟩, 0), 0, (.slice .none 0 0)) := B_10.lessAt 0
    replace B_34 : Bx (.arr 7 (.int .i64)) 69 w_82 (Kx K w.heap.size [some b_46, some b_33, some b_9, some b_5, some b_1]) b_33 ([0, 0, 11, 11, 11, 13, 11] : List (Int)) := B_34.lessAt 0
    replace B_47 : Bx (.st (.pair (.int .i64) .raw)) 64 w_82 (Kx K w.heap.size [some b_46, some b_33, some b_9, some b_5, some b_1]) b_46 (j_57.2, v_58) := B_47.lessAt 0
    replace W : Wd w w_82 [some b_46, some b_33, some b_9, some b_5, some b_1] := W.lessAt 0
    replace B_47 : Bx (.st (.pair (.int .i64) (.sl (.int .u8)))) 64 w_82 (Kx K w.heap.size [some b_46, some b_33, some b_9, some b_5, some b_1]) b_46 (j_57.2, (⟨j_57.1, .none⟩ : Sl (Int))) := Bx.unrawX (t' := (.st (.pair (.int .i64) (.sl (.int .u8))))) (Lx.st (Lx.right Lx.here)) B_47 R_86
    obtain ⟨s_91, es_91, h⟩ := bindS h
    have hR : Rel (Kx K w.heap.size [some b_46, some b_33, some b_9, some b_5, some b_1]) Bl := Bl.rel _
    refine wp_region_suf 7 [1, 4, 4, 4, 7, 6, 7, 8, 9] hR [eqv (.pointer (some ((⟨b_1, 0, .none⟩ : Addr).add (coff (.pair (.st (.pair .bool (.pair (.int .u8) (.pair (.int .i64) (.pair (.sl (.sl (.int .u8))) (.int .i64)))))) (.pair (.int .i64) (.sl (.st (.pair (.int .i64) (.sl (.int .u8))))))) 2)))), isRep (.sl (.st (.pair (.int .i64) (.sl (.int .u8))))) (Kx K w.heap.size [some b_46, some b_33, some b_9, some b_5, some b_1]) x0.2.2, isI .i64 (lenI x0.2.2), isI .i64 (lenI x0.2.2), isRep (.sl (.st (.pair (.int .i64) (.sl (.int .u8))))) (Kx K w.heap.size [some b_46, some b_33, some b_9, some b_5, some b_1]) s_91, isRep (.st (.pair (.int .i64) (.sl (.int .u8)))) (Kx K w.heap.size [some b_46, some b_33, some b_9, some b_5, some b_1]) (j_57.2, (⟨j_57.1, .none⟩ : Sl (Int))), isRep (.sl (.st (.pair (.int .i64) (.sl (.int .u8))))) (Kx K w.heap.size [some b_46, some b_33, some b_9, some b_5, some b_1]) (⟨[(j_57.2, (⟨j_57.1, .none⟩ : Sl (Int)))], some 1⟩ : Sl (Int × (Sl (Int))))] [[], [(0, 54)], [], [], [(1, 55), (2, 56), (3, 57)], [], [(5, 59)]] (by kernel_rfl) (by rw [S.size]; kernel_rfl) (by kernel_rfl) (by kernel_rfl) (by kernel_rfl) rfl ⟨(stab_eqv _), (stab_rep hR), stab_I, stab_I, (stab_rep hR), (stab_rep hR), (stab_rep hR), trivial⟩ ?_ ?_
    ·
      refine RunAll.cons (eqv (.pointer (some ((⟨b_1, 0, .none⟩ : Addr).add (coff (.pair (.st (.pair .bool (.pair (.int .u8) (.pair (.int .i64) (.pair (.sl (.sl (.int .u8))) (.int .i64)))))) (.pair (.int .i64) (.sl (.st (.pair (.int .i64) (.sl (.int .u8))))))) 2))))) [] rfl rfl ?_ ?_
      · intro W_ hW
        have S1 := S
        refine fill_nil S1 ?_; clear S1; intro a_ S1
        replace B_2 := B_2.step hW
        have S0 := S.defers; replace S := S1; clear S1
        refine wl_pure (l' := [(54, .pointer (some ((⟨b_1, 0, .none⟩ : Addr).add (coff (.pair (.st (.pair .bool (.pair (.int .u8) (.pair (.int .i64) (.pair (.sl (.sl (.int .u8))) (.int .i64)))))) (.pair (.int .i64) (.sl (.st (.pair (.int .i64) (.sl (.int .u8))))))) 2)))), (7, .int .i64 (lenI x0.2.2)), (6, .pointer (some (⟨b_46, 0, .none⟩ : Addr))), (4, .pointer (some (⟨b_9, 0, .none⟩ : Addr))), (2, .pointer (some (⟨b_1, 0, .none⟩ : Addr)))]) S tys tys_ok 1 (by kernel_rfl) ?_; clear S; intro a S
        refine wpList_nil ?_
        exact RPost.mk_ S rfl S0 rfl (Below.refl _ _)
      refine RunAll.cons (isRep (.sl (.st (.pair (.int .i64) (.sl (.int .u8))))) (Kx K w.heap.size [some b_46, some b_33, some b_9, some b_5, some b_1]) x0.2.2) [(eqv (.pointer (some ((⟨b_1, 0, .none⟩ : Addr).add (coff (.pair (.st (.pair .bool (.pair (.int .u8) (.pair (.int .i64) (.pair (.sl (.sl (.int .u8))) (.int .i64)))))) (.pair (.int .i64) (.sl (.st (.pair (.int .i64) (.sl (.int .u8))))))) 2)))), 54)] rfl rfl ?_ ?_
      · intro W_ hW
        have S1 := S
        intro v_99 hF_98; obtain rfl : .pointer (some ((⟨b_1, 0, .none⟩ : Addr).add (coff (.pair (.st (.pair .bool (.pair (.int .u8) (.pair (.int .i64) (.pair (.sl (.sl (.int .u8))) (.int .i64)))))) (.pair (.int .i64) (.sl (.st (.pair (.int .i64) (.sl (.int .u8))))))) 2))) = v_99 := Eq.symm hF_98
        replace S1 := S1.put (by decide : 54 < 64) (.pointer (some ((⟨b_1, 0, .none⟩ : Addr).add (coff (.pair (.st (.pair .bool (.pair (.int .u8) (.pair (.int .i64) (.pair (.sl (.sl (.int .u8))) (.int .i64)))))) (.pair (.int .i64) (.sl (.st (.pair (.int .i64) (.sl (.int .u8))))))) 2))))
        refine fill_nil S1 ?_; clear S1; intro a_ S1
        replace B_2 := B_2.step hW
        have S0 := S.defers; replace S := S1; clear S1
        refine w_go S rfl (op_load (t := (.sl (.st (.pair (.int .i64) (.sl (.int .u8)))))) (x := x0.2.2) S rfl ty45 rfl rfl rfl (RepAt.add 2 (RepAt.st (t := (.pair (.st (.pair .bool (.pair (.int .u8) (.pair (.int .i64) (.pair (.sl (.sl (.int .u8))) (.int .i64)))))) (.pair (.int .i64) (.sl (.st (.pair (.int .i64) (.sl (.int .u8)))))))) B_2.at_)) ?_)
        clear S; intro a v_100 R_101 S
        refine wpList_nil ?_
        exact RPost.mk_ S rfl S0 R_101 (Below.refl _ _)
      refine RunAll.cons (isI .i64 (lenI x0.2.2)) [] rfl rfl ?_ ?_
      · intro W_ hW
        have S1 := S
        refine fill_nil S1 ?_; clear S1; intro a_ S1
        have S0 := S.defers; replace S := S1; clear S1
        refine wl_pure (l' := [(56, .int .i64 (lenI x0.2.2)), (7, .int .i64 (lenI x0.2.2)), (6, .pointer (some (⟨b_46, 0, .none⟩ : Addr))), (4, .pointer (some (⟨b_9, 0, .none⟩ : Addr))), (2, .pointer (some (⟨b_1, 0, .none⟩ : Addr)))]) S tys tys_ok 1 (by kernel_rfl) ?_; clear S; intro a S
        refine wpList_nil ?_
        exact RPost.mk_ S rfl S0 ⟨rfl, G_85⟩ (Below.refl _ _)
      refine RunAll.cons (isI .i64 (lenI x0.2.2)) [] rfl rfl ?_ ?_
      · intro W_ hW
        have S1 := S
        refine fill_nil S1 ?_; clear S1; intro a_ S1
        have S0 := S.defers; replace S := S1; clear S1
        refine wl_pure (l' := [(57, .int .i64 (lenI x0.2.2)), (7, .int .i64 (lenI x0.2.2)), (6, .pointer (some (⟨b_46, 0, .none⟩ : Addr))), (4, .pointer (some (⟨b_9, 0, .none⟩ : Addr))), (2, .pointer (some (⟨b_1, 0, .none⟩ : Addr)))]) S tys tys_ok 1 (by kernel_rfl) ?_; clear S; intro a S
        refine wpList_nil ?_
        exact RPost.mk_ S rfl S0 ⟨rfl, G_85⟩ (Below.refl _ _)
      refine RunAll.cons (isRep (.sl (.st (.pair (.int .i64) (.sl (.int .u8))))) (Kx K w.heap.size [some b_46, some b_33, some b_9, some b_5, some b_1]) s_91) [(isRep (.sl (.st (.pair (.int .i64) (.sl (.int .u8))))) (Kx K w.heap.size [some b_46, some b_33, some b_9, some b_5, some b_1]) x0.2.2, 55), (isI .i64 (lenI x0.2.2), 56), (isI .i64 (lenI x0.2.2), 57)] rfl rfl ?_ ?_
      · intro W_ hW
        have S1 := S
        intro v_103 hF_102; replace hF_102 : RepV _ _ _ _ _ := hF_102
        replace S1 := S1.put (by decide : 55 < 64) (v_103)
        rintro _ ⟨rfl, hF_104⟩
        replace S1 := S1.put (by decide : 56 < 64) (.int .i64 (lenI x0.2.2))
        rintro _ ⟨rfl, hF_106⟩
        replace S1 := S1.put (by decide : 57 < 64) (.int .i64 (lenI x0.2.2))
        refine fill_nil S1 ?_; clear S1; intro a_ S1
        have S0 := S.defers; replace S := S1; clear S1
        refine w_go S rfl (op_slice3 S rfl ty45 rfl rfl rfl hF_102 (.inl ⟨rfl, rfl⟩) rfl rfl es_91 ?_)
        clear S; intro a v_108 R_109 S
        refine wpList_nil ?_
        exact RPost.mk_ S rfl S0 R_109 (Below.refl _ _)
      refine RunAll.cons (isRep (.st (.pair (.int .i64) (.sl (.int .u8)))) (Kx K w.heap.size [some b_46, some b_33, some b_9, some b_5, some b_1]) (j_57.2, (⟨j_57.1, .none⟩ : Sl (Int)))) [] rfl rfl ?_ ?_
      · intro W_ hW
        have S1 := S
        refine fill_nil S1 ?_; clear S1; intro a_ S1
        replace B_47 := B_47.step hW
        have S0 := S.defers; replace S := S1; clear S1
        refine w_go S rfl (op_load (t := (.st (.pair (.int .i64) (.sl (.int .u8))))) (x := (j_57.2, (⟨j_57.1, .none⟩ : Sl (Int)))) S rfl ty64 rfl rfl rfl B_47.at_ ?_)
        clear S; intro a v_110 R_111 S
        refine wpList_nil ?_
        exact RPost.mk_ S rfl S0 R_111 (Below.refl _ _)
      refine RunAll.cons (isRep (.sl (.st (.pair (.int .i64) (.sl (.int .u8))))) (Kx K w.heap.size [some b_46, some b_33, some b_9, some b_5, some b_1]) (⟨[(j_57.2, (⟨j_57.1, .none⟩ : Sl (Int)))], some 1⟩ : Sl (Int × (Sl (Int))))) [(isRep (.st (.pair (.int .i64) (.sl (.int .u8)))) (Kx K w.heap.size [some b_46, some b_33, some b_9, some b_5, some b_1]) (j_57.2, (⟨j_57.1, .none⟩ : Sl (Int))), 59)] rfl rfl ?_ ?_
      · intro W_ hW
        have S1 := S
        intro v_113 hF_112; replace hF_112 : RepV _ _ _ _ _ := hF_112
        replace S1 := S1.put (by decide : 59 < 64) (v_113)
        refine fill_nil S1 ?_; clear S1; intro a_ S1
        replace W := W.step hW
        have S0 := S.defers; replace S := S1; clear S1
        refine w_go S rfl (op_buildSlice (K := K) (e := (.st (.pair (.int .i64) (.sl (.int .u8))))) (vs := [v_113]) (xs := [(j_57.2, (⟨j_57.1, .none⟩ : Sl (Int)))]) S W rfl ty45 rfl rfl (by kernel_rfl) rfl rfl rfl rfl rfl ⟨hF_112, trivial⟩ ?_)
        clear S; intro a w_117 v_114 hb_116 R_115 S
        refine wpList_nil ?_
        exact RPost.mk_ S rfl S0 R_115 (hb_116)
      exact trivial
    intro w_118 hb_119
    refine EndE.some_ rfl ?_
    intro v_121 hF_120; obtain rfl : .pointer (some ((⟨b_1, 0, .none⟩ : Addr).add (coff (.pair (.st (.pair .bool (.pair (.int .u8) (.pair (.int .i64) (.pair (.sl (.sl (.int .u8))) (.int .i64)))))) (.pair (.int .i64) (.sl (.st (.pair (.int .i64) (.sl (.int .u8))))))) 2))) = v_121 := Eq.symm hF_120
    replace S := S.put (by decide : 54 < 64) (.pointer (some ((⟨b_1, 0, .none⟩ : Addr).add (coff (.pair (.st (.pair .bool (.pair (.int .u8) (.pair (.int .i64) (.pair (.sl (.sl (.int .u8))) (.int .i64)))))) (.pair (.int .i64) (.sl (.st (.pair (.int .i64) (.sl (.int .u8))))))) 2))))
    refine EndE.some_ rfl ?_
    intro v_123 hF_122; replace hF_122 : RepV _ _ _ _ _ := hF_122
    replace S := S.put (by decide : 55 < 64) (v_123)
    refine EndE.some_ rfl ?_
    rintro _ ⟨rfl, hF_124⟩
    replace S := S.put (by decide : 56 < 64) (.int .i64 (lenI x0.2.2))
    refine EndE.some_ rfl ?_
    rintro _ ⟨rfl, hF_126⟩
    replace S := S.put (by decide : 57 < 64) (.int .i64 (lenI x0.2.2))
    refine EndE.some_ rfl ?_
    intro v_129 hF_128; replace hF_128 : RepV _ _ _ _ _ := hF_128
    replace S := S.put (by decide : 58 < 64) (v_129)
    refine EndE.some_ rfl ?_
    intro v_131 hF_130; replace hF_130 : RepV _ _ _ _ _ := hF_130
    replace S := S.put (by decide : 59 < 64) (v_131)
    refine EndE.some_ rfl ?_
    intro v_133 hF_132; replace hF_132 : RepV _ _ _ _ _ := hF_132
    replace S := S.put (by decide : 60 < 64) (v_133)
    refine endE_nil S ?_; clear S; intro a S
    replace B_2 := B_2.step hb_119
    replace B_6 := B_6.step hb_119
    replace B_10 := B_10.step hb_119
    replace B_34 := B_34.step hb_119
    replace B_47 := B_47.step hb_119
    replace W := W.step hb_119
    obtain ⟨l_134, el_134, h⟩ := bindS h
    refine w_go S rfl (op_append_full S W (E := 64) rfl ty45 un45 by45 rfl rfl rfl rfl hF_128 hF_132 el_134 ?_)
    clear S; intro a w_136 v_135 NO_137 O_138 S
    replace hF_122 := hF_122.newO NO_137
    replace hF_128 := hF_128.newO NO_137
    replace hF_130 := hF_130.newO NO_137
    replace hF_132 := hF_132.newO NO_137
    replace B_2 := B_2.newO NO_137
    replace B_6 := B_6.newO NO_137
    replace B_10 := B_10.newO NO_137
    replace B_34 := B_34.newO NO_137
    replace B_47 := B_47.newO NO_137
    replace W := W.newO NO_137
    replace O_138 : Ow (.st (.pair (.int .i64) (.sl (.int .u8)))) 64 w_136 w.heap.size (Kx K w.heap.size [v_135.ownBlock, some b_46, some b_33, some b_9, some b_5, some b_1]) v_135 l_134 .none := O_138
    refine wl_pure (l' := [(62, .pointer (some ((⟨b_1, 0, .none⟩ : Addr).add (coff (.pair (.st (.pair .bool (.pair (.int .u8) (.pair (.int .i64) (.pair (.sl (.sl (.int .u8))) (.int .i64)))))) (.pair (.int .i64) (.sl (.st (.pair (.int .i64) (.sl (.int .u8))))))) 2)))), (61, v_135), (60, v_133), (59, v_131), (58, v_129), (57, .int .i64 (lenI x0.2.2)), (56, .int .i64 (lenI x0.2.2)), (55, v_123), (54, .pointer (some ((⟨b_1, 0, .none⟩ : Addr).add (coff (.pair (.st (.pair .bool (.pair (.int .u8) (.pair (.int .i64) (.pair (.sl (.sl (.int .u8))) (.int .i64)))))) (.pair (.int .i64) (.sl (.st (.pair (.int .i64) (.sl (.int .u8))))))) 2)))), (7, .int .i64 (lenI x0.2.2)), (6, .pointer (some (⟨b_46, 0, .none⟩ : Addr))), (4, .pointer (some (⟨b_9, 0, .none⟩ : Addr))), (2, .pointer (some (⟨b_1, 0, .none⟩ : Addr)))]) S tys tys_ok 1 (by kernel_rfl) ?_
    clear S; intro a S
    obtain ⟨vr_139, B_⟩ := Bx.toRawX (t' := (.st (.pair (.st (.pair .bool (.pair (.int .u8) (.pair (.int .i64) (.pair (.sl (.sl (.int .u8))) (.int .i64)))))) (.pair (.int .i64) .raw)))) (Lx.st (Lx.right (Lx.right Lx.here))) B_2
    replace B_2 : Bx (.st (.pair (.st (.pair .bool (.pair (.int .u8) (.pair (.int .i64) (.pair (.sl (.sl (.int .u8))) (.int .i64)))))) (.pair (.int .i64) .raw))) 47 w_136 (Kx K w.heap.size [v_135.ownBlock, some b_46, some b_33, some b_9, some b_5, some b_1]) b_1 (x0.1, x0.2.1, vr_139) := B_; clear B_
    refine w_go S rfl (op_store (t' := .raw) S rfl rfl tyr45 rfl (addr_add1 _ _) rfl B_2 (by simp) (Ln.st (Ln.comp 2)) O_138.raw ?_)
    intro w_140 hw_141 B_
    replace hF_122 := hF_122.wrote hw_141 (by simp)
    replace hF_128 := hF_128.wrote hw_141 (by simp)
    replace hF_130 := hF_130.wrote hw_141 (by simp)
    replace hF_132 := hF_132.wrote hw_141 (by simp)
    replace B_6 := B_6.wrote hw_141 (by simp) (W.bne (p := 4) (q := 5) (by decide) rfl rfl)
    replace B_10 := B_10.wrote hw_141 (by simp) (W.bne (p := 3) (q := 5) (by decide) rfl rfl)
    replace B_34 := B_34.wrote hw_141 (by simp) (W.bne (p := 2) (q := 5) (by decide) rfl rfl)
    replace B_47 := B_47.wrote hw_141 (by simp) (W.bne (p := 1) (q := 5) (by decide) rfl rfl)
    replace O_138 := O_138.wrote hw_141 (by simp) (W.one (p := 0) (q := 5) (by decide) rfl rfl)
    replace W := W.wrote hw_141 (by simp)
    replace B_2 : Bx (.st (.pair (.st (.pair .bool (.pair (.int .u8) (.pair (.int .i64) (.pair (.sl (.sl (.int .u8))) (.int .i64)))))) (.pair (.int .i64) .raw))) 47 w_140 (Kx K w.heap.size [v_135.ownBlock, some b_46, some b_33, some b_9, some b_5, some b_1]) b_1 (x0.1, x0.2.1, v_135) := B_; clear B_
    refine wpList_nil ?_
    refine then_n ?_
    replace S := S.sub (l' := [(4, .pointer (some (⟨b_9, 0, .none⟩ : Addr))), (2, .pointer (some (⟨b_1, 0, .none⟩ : Addr)))]) (by exact ⟨rfl, rfl, trivial⟩)
    refine wp_seq ?_
    refine wp_region_lit ?_
    have R_142 : RepV (.sl (.st (.pair (.int .i64) (.sl (.int .u8))))) w_140 (Kx K w.heap.size [some b_46, some b_33, some b_9, some b_5, some b_1]) v_135 (⟨l_134, .none⟩ : Sl (Int × (Sl (Int)))) := O_138.pubAt W 0 rfl
    replace B_2 : Bx (.st (.pair (.st (.pair .bool (.pair (.int .u8) (.pair (.int .i64) (.pair (.sl (.sl (.int .u8))) (.int .i64)))))) (.pair (.int .i64) .raw))) 47 w_140 (Kx K w.heap.size [some b_46, some b_33, some b_9, some b_5, some b_1]) b_1 (x0.1, x0.2.1, v_135) := B_2.lessAt 0
    replace B_6 : Bx (.st (.pair (.int .u8) (.sl (.int .u8)))) 61 w_140 (Kx K w.heap.size [some b_46, some b_33, some b_9, some b_5, some b_1]) b_5 x1 := B_6.lessAt 0
    replace B_10 : Bx (.st (.pair (.st (.pair .bool (.pair (.int .u8) (.pair (.int .i64) (.pair (.sl (.sl (.int .u8))) (.int .i64)))))) (.pair (.int .i64) .raw))) 47 w_140 (Kx K w.heap.size [some b_46, some b_33, some b_9, some b_5, some b_1]) b_9 ((false, 0, 0, ⟨[], some 0⟩, 0), 0, (.slice .none 0 0)) := B_10.lessAt 0
    replace B_34 : Bx (.arr 7 (.int .i64)) 69 w_140 (Kx K w.heap.size [some b_46, some b_33, some b_9, some b_5, some b_1]) b_33 ([0, 0, 11, 11, 11, 13, 11] : List (Int)) := B_34.lessAt 0
    replace B_47 : Bx (.st (.pair (.int .i64) (.sl (.int .u8)))) 64 w_140 (Kx K w.heap.size [some b_46, some b_33, some b_9, some b_5, some b_1]) b_46 (j_57.2, (⟨j_57.1, .none⟩ : Sl (Int))) := B_47.lessAt 0
    replace W : Wd w w_140 [some b_46, some b_33, some b_9, some b_5, some b_1] := W.lessAt 0
    replace B_2 : Bx (.st (.pair (.st (.pair .bool (.pair (.int .u8) (.pair (.int .i64) (.pair (.sl (.sl (.int .u8))) (.int .i64)))))) (.pair (.int .i64) (.sl (.st (.pair (.int .i64) (.sl (.int .u8)))))))) 47 w_140 (Kx K w.heap.size [some b_46, some b_33, some b_9, some b_5, some b_1]) b_1 (x0.1, x0.2.1, (⟨l_134, .none⟩ : Sl (Int × (Sl (Int))))) := Bx.unrawX (t' := (.st (.pair (.st (.pair .bool (.pair (.int .u8) (.pair (.int .i64) (.pair (.sl (.sl (.int .u8))) (.int .i64)))))) (.pair (.int .i64) (.sl (.st (.pair (.int .i64) (.sl (.int .u8))))))))) (Lx.st (Lx.right (Lx.right Lx.here))) B_2 R_142
    refine w_go S rfl (op_load (t := (.st (.pair (.st (.pair .bool (.pair (.int .u8) (.pair (.int .i64) (.pair (.sl (.sl (.int .u8))) (.int .i64)))))) (.pair (.int .i64) (.sl (.st (.pair (.int .i64) (.sl (.int .u8))))))))) (x := (x0.1, x0.2.1, (⟨l_134, .none⟩ : Sl (Int × (Sl (Int)))))) S rfl ty47 rfl rfl rfl B_2.at_ ?_)
    clear S; intro a v_143 R_144 S
    replace B_10 : Bx (.st (.pair (.st (.pair .bool (.pair (.int .u8) (.pair (.int .i64) (.pair (.sl (.sl (.int .u8))) (.int .i64)))))) (.pair (.int .i64) (.sl (.st (.pair (.int .i64) (.sl (.int .u8)))))))) 47 w_140 (Kx K w.heap.size [some b_46, some b_33, some b_9, some b_5, some b_1]) b_9 ((false, 0, 0, ⟨[], some 0⟩, 0), 0, (⟨[], some 0⟩ : Sl (Int × (Sl (Int))))) := Bx.unrawX (t' := (.st (.pair (.st (.pair .bool (.pair (.int .u8) (.pair (.int .i64) (.pair (.sl (.sl (.int .u8))) (.int .i64)))))) (.pair (.int .i64) (.sl (.st (.pair (.int .i64) (.sl (.int .u8))))))))) (Lx.st (Lx.right (Lx.right Lx.here))) B_10 RepV.nil
    refine w_go S rfl (op_store (t' := (.st (.pair (.st (.pair .bool (.pair (.int .u8) (.pair (.int .i64) (.pair (.sl (.sl (.int .u8))) (.int .i64)))))) (.pair (.int .i64) (.sl (.st (.pair (.int .i64) (.sl (.int .u8))))))))) S rfl rfl ty47 rfl rfl rfl B_10 (by simp) Ln.whole R_144 ?_)
    intro w_145 hw_146 B_
    replace R_144 := R_144.wrote hw_146 (by simp)
    replace B_2 := B_2.wrote hw_146 (by simp) (W.bne (p := 4) (q := 2) (by decide) rfl rfl)
    replace B_6 := B_6.wrote hw_146 (by simp) (W.bne (p := 3) (q := 2) (by decide) rfl rfl)
    replace B_34 := B_34.wrote hw_146 (by simp) (W.bne (p := 1) (q := 2) (by decide) rfl rfl)
    replace B_47 := B_47.wrote hw_146 (by simp) (W.bne (p := 0) (q := 2) (by decide) rfl rfl)
    replace W := W.wrote hw_146 (by simp)
    replace B_10 : Bx (.st (.pair (.st (.pair .bool (.pair (.int .u8) (.pair (.int .i64) (.pair (.sl (.sl (.int .u8))) (.int .i64)))))) (.pair (.int .i64) (.sl (.st (.pair (.int .i64) (.sl (.int .u8)))))))) 47 w_145 (Kx K w.heap.size [some b_46, some b_33, some b_9, some b_5, some b_1]) b_9 (x0.1, x0.2.1, (⟨l_134, .none⟩ : Sl (Int × (Sl (Int))))) := B_; clear B_
    refine wpList_nil ?_
    refine then_n ?_
    replace S := S.sub (l' := [(4, .pointer (some (⟨b_9, 0, .none⟩ : Addr)))]) (by exact ⟨rfl, trivial⟩)
    refine wp_ret ?_
    obtain ⟨v_147, hr_148, R_149⟩ := res_cell (P := Try.prog) (T := 47) (t := (.st (.pair (.st (.pair .bool (.pair (.int .u8) (.pair (.int .i64) (.pair (.sl (.sl (.int .u8))) (.int .i64)))))) (.pair (.int .i64) (.sl (.st (.pair (.int .i64) (.sl (.int .u8))))))))) (x := (x0.1, x0.2.1, (⟨l_134, .none⟩ : Sl (Int × (Sl (Int)))))) S (s := 4) rfl ty47 B_10.at_
    obtain rfl := Option.some.inj h
    exact b_res1 S rfl hr_148 ⟨_, rfl, R_149.out, W.below⟩
theorem cb21 : callB Try.prog 21 = true := by kernel_rfl
def p20_l1 (n : Nat) (x0 : (Bool × Int × Int × (Sl (Sl (Int))) × Int) × Int × (Sl (Int × (Sl (Int))))) : Nat → (Int) → (List (Int × (Sl (Int)))) → Option ((List (Int × (Sl (Int)))))
  | 0, _, _ => .none
  | m + 1, c_24, c_26 => if (decide (c_24 < (lenI x0.2.2))) then ((idx x0.2.2.xs c_24).bind fun y_40 => (idx c_26 c_24).bind fun y_54 => ((p25 n y_40.2).bind fun t_73 => (idx (c_26.set c_24.toNat y_40) c_24).bind fun y_78 => some ((c_26.set c_24.toNat y_40).set c_24.toNat (y_78.1, (⟨t_73.xs, t_73.cap⟩ : Sl (Int))))).bind fun (ja_69 : (List (Int × (Sl (Int))))) => (if y_40.2.xs = [] then (some (c_26.set c_24.toNat y_40)).bind (fun (jb_70 : (List (Int × (Sl (Int))))) => if (ja_69.map (fgc (.st (.pair (.int .i64) (.sl (.int .u8)))))) = (jb_70.map (fgc (.st (.pair (.int .i64) (.sl (.int .u8)))))) then some (ja_69.map (fgc (.st (.pair (.int .i64) (.sl (.int .u8)))))) else .none) else some (ja_69.map (fgc (.st (.pair (.int .i64) (.sl (.int .u8))))))).bind fun (j_66 : (List (Int × (Sl (Int))))) => (ckI .i64 (c_24 + 1)).bind fun x_90 => p20_l1 n x0 m x_90 j_66) else some c_26
def p20 (n : Nat) (x0 : (Bool × Int × Int × (Sl (Sl (Int))) × Int) × Int × (Sl (Int × (Sl (Int))))) : Option ((Sl (Int × (Sl (Int)))) × (Bool)) :=
  (if (x0.2.1 == 0) = false then some (decide ((lenI x0.2.2) < x0.2.1)) else some true).bind fun q_7 =>
  if q_7 then (some ((⟨([] : List (Int × (Sl (Int)))), some 0⟩ : Sl (Int × (Sl (Int)))), false)) else (mkI x0.2.1 x0.2.1).bind fun m_16 => (p20_l1 n x0 n 0 (List.replicate m_16.1 ((0, ⟨[], some 0⟩) : Int × (Sl (Int))))).bind fun (y_34 : (List (Int × (Sl (Int))))) => some ((⟨y_34, some m_16.2⟩ : Sl (Int × (Sl (Int)))), true)
set_option maxHeartbeats 4000000 in
set_option maxRecDepth 100000 in
/-- plugboard/periodics.End -/
theorem c20 (K : Nat → Prop) (n : Nat) (w : World) (x0 : (Bool × Int × Int × (Sl (Sl (Int))) × Int) × Int × (Sl (Int × (Sl (Int))))) (v0 : Value) (R0 : RepV (.st (.pair (.st (.pair .bool (.pair (.int .u8) (.pair (.int .i64) (.pair (.sl (.sl (.int .u8))) (.int .i64)))))) (.pair (.int .i64) (.sl (.st (.pair (.int .i64) (.sl (.int .u8)))))))) w K v0 x0) {r : (Sl (Int × (Sl (Int)))) × (Bool)} (h : p20 n x0 = some r) :
    Calls Try.prog 20 #[v0] w (fun e_ w_ => ∃ v0_ v1_ : Value, e_ = .returned (.tuple #[v0_, v1_]) ∧ Ow (.st (.pair (.int .i64) (.sl (.int .u8)))) 64 w_ w.heap.size (Kx K w.heap.size [v0_.ownBlock]) v0_ r.1.xs r.1.cap ∧ RepV .bool w_ (Kx K w.heap.size [v0_.ownBlock]) v1_ r.2 ∧ Below w.heap.size w w_) := by
  refine enter (args := [v0]) Try.func20 rfl 45 rfl rfl fun a S => ?_
  have W := Wd.start w
  replace R0 := R0.arg
  unfold p20 at h
  replace S : St 45 a [(0, v0)] := S
  refine wp_seq ?_
  refine wp_region_lit ?_
  refine w_go S rfl (op_box S rfl rfl rfl rfl rfl R0 ?_)
  clear S; intro a w_3 b_1 hb_4 B_2 S
  replace R0 := R0.box hb_4
  replace W := W.box hb_4
  refine wl_pure (l' := [(3, .bool false), (2, .slice .none 0 0), (1, .pointer (some (⟨b_1, 0, .none⟩ : Addr))), (0, v0)]) S tys tys_ok 2 (by kernel_rfl) ?_
  clear S; intro a S
  refine wpList_nil ?_
  refine then_n ?_
  replace S := S.sub (l' := [(1, .pointer (some (⟨b_1, 0, .none⟩ : Addr)))]) (by exact ⟨rfl, trivial⟩)
  refine wp_seq ?_
  refine wp_seq ?_
  refine wp_region_lit ?_
  refine wl_pure (l' := [(7, .pointer (some ((⟨b_1, 0, .none⟩ : Addr).add (coff (.pair (.st (.pair .bool (.pair (.int .u8) (.pair (.int .i64) (.pair (.sl (.sl (.int .u8))) (.int .i64)))))) (.pair (.int .i64) (.sl (.st (.pair (.int .i64) (.sl (.int .u8))))))) 1)))), (1, .pointer (some (⟨b_1, 0, .none⟩ : Addr)))]) S tys tys_ok 1 (by kernel_rfl) ?_
  clear S; intro a S
  refine w_go S rfl (op_load (t := (.int .i64)) (x := x0.2.1) S rfl ty3 rfl rfl rfl (RepAt.add 1 (RepAt.st (t := (.pair (.st (.pair .bool (.pair (.int .u8) (.pair (.int .i64) (.pair (.sl (.sl (.int .u8))) (.int .i64)))))) (.pair (.int .i64) (.sl (.st (.pair (.int .i64) (.sl (.int .u8)))))))) B_2.at_)) ?_)
  clear S; intro a v_5 R_6 S
  obtain ⟨rfl, GR_6⟩ := RepV.int R_6
  refine wl_pure (l' := [(10, .bool (x0.2.1 == 0)), (9, .bool (x0.2.1 == 0)), (8, .int .i64 x0.2.1), (7, .pointer (some ((⟨b_1, 0, .none⟩ : Addr).add (coff (.pair (.st (.pair .bool (.pair (.int .u8) (.pair (.int .i64) (.pair (.sl (.sl (.int .u8))) (.int .i64)))))) (.pair (.int .i64) (.sl (.st (.pair (.int .i64) (.sl (.int .u8))))))) 1)))), (1, .pointer (some (⟨b_1, 0, .none⟩ : Addr)))]) S tys tys_ok 2 (by kernel_rfl) ?_
  clear S; intro a S
  obtain ⟨q_7, eq_7, h⟩ := bindS h
  refine seg 7 (fun a_ w_ => w_3 = w_ ∧ St 45 a_ [(17, .bool q_7), (1, .pointer (some (⟨b_1, 0, .none⟩ : Addr)))]) ?_ ?_
  · by_cases hc : (x0.2.1 == 0) = false
    · rw [if_pos hc] at eq_7; rw [hc] at S
      refine wl_pure (l' := [(11, .pointer (some ((⟨b_1, 0, .none⟩ : Addr).add (coff (.pair (.st (.pair .bool (.pair (.int .u8) (.pair (.int .i64) (.pair (.sl (.sl (.int .u8))) (.int .i64)))))) (.pair (.int .i64) (.sl (.st (.pair (.int .i64) (.sl (.int .u8))))))) 2)))), (10, .bool false), (9, .bool false), (8, .int .i64 x0.2.1), (7, .pointer (some ((⟨b_1, 0, .none⟩ : Addr).add (coff (.pair (.st (.pair .bool (.pair (.int .u8) (.pair (.int .i64) (.pair (.sl (.sl (.int .u8))) (.int .i64)))))) (.pair (.int .i64) (.sl (.st (.pair (.int .i64) (.sl (.int .u8))))))) 1)))), (1, .pointer (some (⟨b_1, 0, .none⟩ : Addr)))]) S tys tys_ok 1 (by kernel_rfl) ?_
      clear S; intro a S
      refine w_go S rfl (op_load (t := (.sl (.st (.pair (.int .i64) (.sl (.int .u8)))))) (x := x0.2.2) S rfl ty45 rfl rfl rfl (RepAt.add 2 (RepAt.st (t := (.pair (.st (.pair .bool (.pair (.int .u8) (.pair (.int .i64) (.pair (.sl (.sl (.int .u8))) (.int .i64)))))) (.pair (.int .i64) (.sl (.st (.pair (.int .i64) (.sl (.int .u8)))))))) B_2.at_)) ?_)
      clear S; intro a v_8 R_9 S
      refine w_go S rfl (op_len (K := _) S rfl ty45 rfl rfl rfl R_9 ?_)
      clear S; intro a G_10 S
      refine wl_pure (l' := [(14, .pointer (some ((⟨b_1, 0, .none⟩ : Addr).add (coff (.pair (.st (.pair .bool (.pair (.int .u8) (.pair (.int .i64) (.pair (.sl (.sl (.int .u8))) (.int .i64)))))) (.pair (.int .i64) (.sl (.st (.pair (.int .i64) (.sl (.int .u8))))))) 1)))), (13, .int .i64 (lenI x0.2.2)), (12, v_8), (11, .pointer (some ((⟨b_1, 0, .none⟩ : Addr).add (coff (.pair (.st (.pair .bool (.pair (.int .u8) (.pair (.int .i64) (.pair (.sl (.sl (.int .u8))) (.int .i64)))))) (.pair (.int .i64) (.sl (.st (.pair (.int .i64) (.sl (.int .u8))))))) 2)))), (10, .bool false), (9, .bool false), (8, .int .i64 x0.2.1), (7, .pointer (some ((⟨b_1, 0, .none⟩ : Addr).add (coff (.pair (.st (.pair .bool (.pair (.int .u8) (.pair (.int .i64) (.pair (.sl (.sl (.int .u8))) (.int .i64)))))) (.pair (.int .i64) (.sl (.st (.pair (.int .i64) (.sl (.int .u8))))))) 1)))), (1, .pointer (some (⟨b_1, 0, .none⟩ : Addr)))]) S tys tys_ok 1 (by kernel_rfl) ?_
      clear S; intro a S
      refine w_go S rfl (op_load (t := (.int .i64)) (x := x0.2.1) S rfl ty3 rfl rfl rfl (RepAt.add 1 (RepAt.st (t := (.pair (.st (.pair .bool (.pair (.int .u8) (.pair (.int .i64) (.pair (.sl (.sl (.int .u8))) (.int .i64)))))) (.pair (.int .i64) (.sl (.st (.pair (.int .i64) (.sl (.int .u8)))))))) B_2.at_)) ?_)
      clear S; intro a v_11 R_12 S
      obtain ⟨rfl, GR_12⟩ := RepV.int R_12
      refine wl_pure (l' := [(17, .bool (decide ((lenI x0.2.2) < x0.2.1))), (16, .bool (decide ((lenI x0.2.2) < x0.2.1))), (15, .int .i64 x0.2.1), (14, .pointer (some ((⟨b_1, 0, .none⟩ : Addr).add (coff (.pair (.st (.pair .bool (.pair (.int .u8) (.pair (.int .i64) (.pair (.sl (.sl (.int .u8))) (.int .i64)))))) (.pair (.int .i64) (.sl (.st (.pair (.int .i64) (.sl (.int .u8))))))) 1)))), (13, .int .i64 (lenI x0.2.2)), (12, v_8), (11, .pointer (some ((⟨b_1, 0, .none⟩ : Addr).add (coff (.pair (.st (.pair .bool (.pair (.int .u8) (.pair (.int .i64) (.pair (.sl (.sl (.int .u8))) (.int .i64)))))) (.pair (.int .i64) (.sl (.st (.pair (.int .i64) (.sl (.int .u8))))))) 2)))), (10, .bool false), (9, .bool false), (8, .int .i64 x0.2.1), (7, .pointer (some ((⟨b_1, 0, .none⟩ : Addr).add (coff (.pair (.st (.pair .bool (.pair (.int .u8) (.pair (.int .i64) (.pair (.sl (.sl (.int .u8))) (.int .i64)))))) (.pair (.int .i64) (.sl (.st (.pair (.int .i64) (.sl (.int .u8))))))) 1)))), (1, .pointer (some (⟨b_1, 0, .none⟩ : Addr)))]) S tys tys_ok 2 (by kernel_rfl) ?_
      clear S; intro a S
      obtain rfl := Option.some.inj eq_7
      exact ⟨rfl, S.sub (by exact ⟨rfl, rfl, trivial⟩)⟩
    · rw [if_neg hc] at eq_7; rw [show (x0.2.1 == 0) = true from (by simpa using hc)] at S
      refine wl_pure (l' := [(17, .bool true), (16, undef), (15, undef), (14, undef), (13, undef), (12, undef), (11, undef), (10, .bool true), (9, .bool true), (8, .int .i64 x0.2.1), (7, .pointer (some ((⟨b_1, 0, .none⟩ : Addr).add (coff (.pair (.st (.pair .bool (.pair (.int .u8) (.pair (.int .i64) (.pair (.sl (.sl (.int .u8))) (.int .i64)))))) (.pair (.int .i64) (.sl (.st (.pair (.int .i64) (.sl (.int .u8))))))) 1)))), (1, .pointer (some (⟨b_1, 0, .none⟩ : Addr)))]) S tys tys_ok 7 (by kernel_rfl) ?_
      clear S; intro a S
      obtain rfl := Option.some.inj eq_7
      exact ⟨rfl, S.sub (by exact ⟨rfl, rfl, trivial⟩)⟩
  clear S eq_7; rintro a _ ⟨rfl, S⟩
  refine wpList_nil ?_
  refine then_n ?_
  refine wp_cond_split (S.eval (show ev _ _ = some (.bool q_7) from rfl)) ?_ ?_
  · intro hc
    rw [if_pos hc] at h
    refine wp_seq ?_
    refine wp_region_lit ?_
    refine wl_pure (l' := [(3, .bool false), (2, .slice .none 0 0), (17, .bool q_7), (1, .pointer (some (⟨b_1, 0, .none⟩ : Addr)))]) S tys tys_ok 2 (by kernel_rfl) ?_
    clear S; intro a S
    refine wpList_nil ?_
    refine then_n ?_
    replace S := S.sub (l' := [(3, .bool false), (2, .slice .none 0 0)]) (by exact ⟨rfl, rfl, trivial⟩)
    refine wp_ret ?_
    refine then_r ?_
    replace B_2 := B_2.more
    replace W := W.more
    have O_13 : Ow (.st (.pair (.int .i64) (.sl (.int .u8)))) 64 w_3 w.heap.size (Kx K w.heap.size [.none, some b_1]) (.slice .none 0 0) ([] : List (Int × (Sl (Int)))) (some 0) := Ow.nil
    obtain rfl := Option.some.inj h
    exact b_ret2 S rfl rfl rfl ⟨_, _, rfl, (O_13.lessO 0 rfl), RepV.mkBool, W.below⟩
  · intro hc
    rw [if_neg (Bool.eq_false_iff.1 hc)] at h
    refine wp_skip ?_
    refine then_n ?_
    replace S := S.sub (l' := [(1, .pointer (some (⟨b_1, 0, .none⟩ : Addr)))]) (by exact ⟨rfl, trivial⟩)
    refine wp_seq ?_
    refine wp_region_lit ?_
    refine wl_pure (l' := [(18, .pointer (some ((⟨b_1, 0, .none⟩ : Addr).add (coff (.pair (.st (.pair .bool (.pair (.int .u8) (.pair (.int .i64) (.pair (.sl (.sl (.int .u8))) (.int .i64)))))) (.pair (.int .i64) (.sl (.st (.pair (.int .i64) (.sl (.int .u8))))))) 1)))), (1, .pointer (some (⟨b_1, 0, .none⟩ : Addr)))]) S tys tys_ok 1 (by kernel_rfl) ?_
    clear S; intro a S
    refine w_go S rfl (op_load (t := (.int .i64)) (x := x0.2.1) S rfl ty3 rfl rfl rfl (RepAt.add 1 (RepAt.st (t := (.pair (.st (.pair .bool (.pair (.int .u8) (.pair (.int .i64) (.pair (.sl (.sl (.int .u8))) (.int .i64)))))) (.pair (.int .i64) (.sl (.st (.pair (.int .i64) (.sl (.int .u8)))))))) B_2.at_)) ?_)
    clear S; intro a v_14 R_15 S
    obtain ⟨rfl, GR_15⟩ := RepV.int R_15
    obtain ⟨m_16, em_16, h⟩ := bindS h
    refine w_go S rfl (op_make (K := K) (e := (.st (.pair (.int .i64) (.sl (.int .u8))))) (z0 := (0, ⟨[], some 0⟩)) S W _ rfl ty45 un45 by45 z64 (fun w K => ⟨[.int .i64 0], [.slice .none 0 0], rfl, ⟨rfl, by decide⟩, ⟨.none, 0, 0, rfl, rfl, Nat.le_refl _, by decide, fun k h => Option.some.inj h, .inl rfl⟩⟩) rfl rfl rfl rfl em_16 ?_)
    clear S; intro a w_18 b_17 hb_19 O_20 S
    replace B_2 := B_2.box hb_19
    replace W := W.box hb_19
    replace O_20 : Ow (.st (.pair (.int .i64) (.sl (.int .u8)))) 64 w_18 w.heap.size (Kx K w.heap.size [some b_17, some b_1]) (.slice (some ⟨b_17, 0, .none⟩) m_16.1 m_16.2) (List.replicate m_16.1 ((0, ⟨[], some 0⟩) : Int × (Sl (Int)))) (some m_16.2) := O_20
    refine wl_pure (l' := [(4, (.slice (some ⟨b_17, 0, .none⟩) m_16.1 m_16.2)), (20, (.slice (some ⟨b_17, 0, .none⟩) m_16.1 m_16.2)), (19, .int .i64 x0.2.1), (18, .pointer (some ((⟨b_1, 0, .none⟩ : Addr).add (coff (.pair (.st (.pair .bool (.pair (.int .u8) (.pair (.int .i64) (.pair (.sl (.sl (.int .u8))) (.int .i64)))))) (.pair (.int .i64) (.sl (.st (.pair (.int .i64) (.sl (.int .u8))))))) 1)))), (1, .pointer (some (⟨b_1, 0, .none⟩ : Addr)))]) S tys tys_ok 1 (by kernel_rfl) ?_
    clear S; intro a S
    refine wpList_nil ?_
    refine then_n ?_
    replace S := S.sub (l' := [(4, (.slice (some ⟨b_17, 0, .none⟩) m_16.1 m_16.2)), (1, .pointer (some (⟨b_1, 0, .none⟩ : Addr)))]) (by exact ⟨rfl, rfl, trivial⟩)
    refine wp_seq ?_
    refine wp_seq ?_
    refine wp_region_lit ?_
    refine wl_pure (l' := [(21, .pointer (some ((⟨b_1, 0, .none⟩ : Addr).add (coff (.pair (.st (.pair .bool (.pair (.int .u8) (.pair (.int .i64) (.pair (.sl (.sl (.int .u8))) (.int .i64)))))) (.pair (.int .i64) (.sl (.st (.pair (.int .i64) (.sl (.int .u8))))))) 2)))), (4, (.slice (some ⟨b_17, 0, .none⟩) m_16.1 m_16.2)), (1, .pointer (some (⟨b_1, 0, .none⟩ : Addr)))]) S tys tys_ok 1 (by kernel_rfl) ?_
    clear S; intro a S
    refine w_go S rfl (op_load (t := (.sl (.st (.pair (.int .i64) (.sl (.int .u8)))))) (x := x0.2.2) S rfl ty45 rfl rfl rfl (RepAt.add 2 (RepAt.st (t := (.pair (.st (.pair .bool (.pair (.int .u8) (.pair (.int .i64) (.pair (.sl (.sl (.int .u8))) (.int .i64)))))) (.pair (.int .i64) (.sl (.st (.pair (.int .i64) (.sl (.int .u8)))))))) B_2.at_)) ?_)
    clear S; intro a v_21 R_22 S
    refine w_go S rfl (op_len (K := _) S rfl ty45 rfl rfl rfl R_22 ?_)
    clear S; intro a G_23 S
    refine wl_pure (l' := [(24, .int .i64 0), (23, .int .i64 (lenI x0.2.2)), (22, v_21), (21, .pointer (some ((⟨b_1, 0, .none⟩ : Addr).add (coff (.pair (.st (.pair .bool (.pair (.int .u8) (.pair (.int .i64) (.pair (.sl (.sl (.int .u8))) (.int .i64)))))) (.pair (.int .i64) (.sl (.st (.pair (.int .i64) (.sl (.int .u8))))))) 2)))), (4, (.slice (some ⟨b_17, 0, .none⟩) m_16.1 m_16.2)), (1, .pointer (some (⟨b_1, 0, .none⟩ : Addr)))]) S tys tys_ok 1 (by kernel_rfl) ?_
    clear S; intro a S
    refine wpList_nil ?_
    refine then_n ?_
    replace S := S.sub (l' := [(24, .int .i64 0), (23, .int .i64 (lenI x0.2.2)), (22, v_21), (4, (.slice (some ⟨b_17, 0, .none⟩) m_16.1 m_16.2))]) (by exact ⟨rfl, rfl, rfl, rfl, trivial⟩)
    obtain ⟨y_34, ey_34, h⟩ := bindS h
    refine wp_cut_ (fun a_ w_ => ∃ (v_35 : Value), St 45 a_ [(4, v_35)] ∧ Wd w w_ [v_35.ownBlock, some b_1] ∧ Bx (.st (.pair (.st (.pair .bool (.pair (.int .u8) (.pair (.int .i64) (.pair (.sl (.sl (.int .u8))) (.int .i64)))))) (.pair (.int .i64) (.sl (.st (.pair (.int .i64) (.sl (.int .u8)))))))) 47 w_ (Kx K w.heap.size [v_35.ownBlock, some b_1]) b_1 x0 ∧ Ow (.st (.pair (.int .i64) (.sl (.int .u8)))) 64 w_ w.heap.size (Kx K w.heap.size [v_35.ownBlock, some b_1]) v_35 y_34 (some m_16.2)) ?_ ?_
    · refine wp_block ?_
      refine wp_loop_n (fun m_ a_ w_ => ∃ (c_24 : Int) (c_26 : List (Int × (Sl (Int)))) , ∃ (v_27 : Value), St 45 a_ [(24, .int .i64 c_24), (23, .int .i64 (lenI x0.2.2)), (22, v_21), (4, v_27)] ∧ Wd w w_ [v_27.ownBlock, some b_1] ∧ InR .i64 c_24 ∧ RepV (.sl (.st (.pair (.int .i64) (.sl (.int .u8))))) w_ (Kx K w.heap.size [v_27.ownBlock, some b_1]) v_21 x0.2.2 ∧ Bx (.st (.pair (.st (.pair .bool (.pair (.int .u8) (.pair (.int .i64) (.pair (.sl (.sl (.int .u8))) (.int .i64)))))) (.pair (.int .i64) (.sl (.st (.pair (.int .i64) (.sl (.int .u8)))))))) 47 w_ (Kx K w.heap.size [v_27.ownBlock, some b_1]) b_1 x0 ∧ Ow (.st (.pair (.int .i64) (.sl (.int .u8)))) 64 w_ w.heap.size (Kx K w.heap.size [v_27.ownBlock, some b_1]) v_27 c_26 (some m_16.2) ∧ p20_l1 n x0 m_ c_24 c_26 = some y_34) n ?_ ?_
      · skip
        exact ⟨0, (List.replicate m_16.1 ((0, ⟨[], some 0⟩) : Int × (Sl (Int)))), ⟨(.slice (some ⟨b_17, 0, .none⟩) m_16.1 m_16.2), S.sub (by exact ⟨rfl, rfl, rfl, rfl, trivial⟩), W, (by decide), R_22, B_2, O_20, ey_34⟩⟩
      · clear S W; rintro m_37 a w_39 ⟨c_24, c_26, v_27, S, W, G_25, R_22, B_2, O_28, hl_38⟩
        cases m_37 with
        | zero => exact absurd hl_38 (by simp [p20_l1])
        | succ m_37 =>
          refine ⟨m_37, rfl, ?_⟩
          rw [p20_l1] at hl_38
          refine wp_seq ?_
          refine wp_region_lit ?_
          refine wl_pure (l' := [(25, .bool (decide (c_24 < (lenI x0.2.2)))), (24, .int .i64 c_24), (23, .int .i64 (lenI x0.2.2)), (22, v_21), (4, v_27)]) S tys tys_ok 1 (by kernel_rfl) ?_
          clear S; intro a S
          refine wpList_nil ?_
          refine then_n ?_
          refine wp_seq ?_
          refine wp_cond_split (S.eval (show ev _ _ = some (.bool (decide (c_24 < (lenI x0.2.2)))) from rfl)) ?_ ?_
          · intro hc
            rw [if_pos hc] at hl_38
            refine wp_skip ?_
            refine then_n ?_
            replace S := S.sub (l' := [(24, .int .i64 c_24), (23, .int .i64 (lenI x0.2.2)), (22, v_21), (4, v_27)]) (by exact ⟨rfl, rfl, rfl, rfl, trivial⟩)
            refine wp_seq ?_
            refine wp_block ?_
            refine wp_seq ?_
            refine wp_region_lit ?_
            refine wl_pure (l' := [(26, .int .i64 c_24), (24, .int .i64 c_24), (23, .int .i64 (lenI x0.2.2)), (22, v_21), (4, v_27)]) S tys tys_ok 1 (by kernel_rfl) ?_
            clear S; intro a S
            obtain ⟨y_40, ey_40, hl_38⟩ := bindS hl_38
            refine w_go S rfl (op_indexAddr S rfl ty45 rfl rfl rfl R_22 rfl ey_40 ?_)
            clear S; intro a p_41 R_42 H_43 S
            refine w_go S rfl (op_load (t := (.st (.pair (.int .i64) (.sl (.int .u8))))) (x := y_40) S rfl ty64 rfl rfl rfl R_42 ?_)
            clear S; intro a v_44 R_45 S
            refine w_go S rfl (op_alloc (K := K) (n := w.heap.size) (L := [v_27.ownBlock, some b_1]) (t := (.st (.pair (.int .i64) .raw))) (y := (0, (.slice .none 0 0))) S rfl rfl rfl _ z64 (fun w K => ⟨[.int .i64 0], [.slice .none 0 0], rfl, ⟨rfl, by decide⟩, ⟨rfl, _, _, _, rfl⟩⟩) ?_)
            clear S; intro a w_48 b_46 hb_49 B_47 S
            replace R_22 := R_22.box hb_49
            replace R_45 := R_45.box hb_49
            replace B_2 := B_2.box hb_49
            replace O_28 := O_28.box hb_49
            replace W := W.box hb_49
            refine wl_pure (l' := [(5, .int .i64 c_24), (6, .pointer (some (⟨b_46, 0, .none⟩ : Addr))), (28, v_44), (27, .pointer (some p_41)), (26, .int .i64 c_24), (24, .int .i64 c_24), (23, .int .i64 (lenI x0.2.2)), (22, v_21), (4, v_27)]) S tys tys_ok 1 (by kernel_rfl) ?_
            clear S; intro a S
            replace B_47 : Bx (.st (.pair (.int .i64) (.sl (.int .u8)))) 64 w_48 (Kx K w.heap.size [some b_46, v_27.ownBlock, some b_1]) b_46 (0, (⟨[], some 0⟩ : Sl (Int))) := Bx.unrawX (t' := (.st (.pair (.int .i64) (.sl (.int .u8))))) (Lx.st (Lx.right Lx.here)) B_47 RepV.nil
            refine w_go S rfl (op_store (t' := (.st (.pair (.int .i64) (.sl (.int .u8))))) S rfl rfl ty64 rfl rfl rfl B_47 (by simp) Ln.whole R_45 ?_)
            intro w_50 hw_51 B_
            replace R_22 := R_22.wrote hw_51 (by simp)
            replace R_45 := R_45.wrote hw_51 (by simp)
            replace B_2 := B_2.wrote hw_51 (by simp) (W.bne (p := 2) (q := 0) (by decide) rfl rfl)
            replace O_28 := O_28.wrote hw_51 (by simp) (W.one (p := 1) (q := 0) (by decide) rfl rfl)
            replace W := W.wrote hw_51 (by simp)
            replace B_47 : Bx (.st (.pair (.int .i64) (.sl (.int .u8)))) 64 w_50 (Kx K w.heap.size [some b_46, v_27.ownBlock, some b_1]) b_46 y_40 := B_; clear B_
            refine wpList_nil ?_
            refine then_n ?_
            replace S := S.sub (l' := [(5, .int .i64 c_24), (6, .pointer (some (⟨b_46, 0, .none⟩ : Addr))), (24, .int .i64 c_24), (23, .int .i64 (lenI x0.2.2)), (22, v_21), (4, v_27)]) (by exact ⟨rfl, rfl, rfl, rfl, rfl, rfl, trivial⟩)
            refine wp_seq ?_
            refine wp_region_lit ?_
            refine wl_pure (l' := [(30, .int .i64 c_24), (29, v_27), (5, .int .i64 c_24), (6, .pointer (some (⟨b_46, 0, .none⟩ : Addr))), (24, .int .i64 c_24), (23, .int .i64 (lenI x0.2.2)), (22, v_21), (4, v_27)]) S tys tys_ok 2 (by kernel_rfl) ?_
            clear S; intro a S
            refine w_go S rfl (op_load (t := (.st (.pair (.int .i64) (.sl (.int .u8))))) (x := y_40) S rfl ty64 rfl rfl rfl B_47.at_ ?_)
            clear S; intro a v_52 R_53 S
            obtain ⟨y_54, ey_54, hl_38⟩ := bindS hl_38
            refine w_go S rfl (op_indexAddr_own S rfl ty45 rfl rfl rfl O_28 rfl ey_54 ?_)
            clear S; intro a g_55 H_57 R_56 S
            refine w_go S rfl (op_store_own (t' := (.st (.pair (.int .i64) (.sl (.int .u8))))) S rfl rfl ty64 rfl rfl rfl O_28 H_57 1 rfl (idx_some ey_54).2.1 Ln.whole R_53 ?_)
            intro w_58 hw_59 hm_61 O_60
            replace R_22 := R_22.wrote hw_59 hm_61
            replace R_53 := R_53.wrote hw_59 hm_61
            replace B_2 := B_2.wrote hw_59 hm_61 (by have h_ := W.one (p := 1) (q := 2) (by decide) rfl rfl; exact fun e_ => h_ (by rw [e_]; exact H_57))
            replace B_47 := B_47.wrote hw_59 hm_61 (by have h_ := W.one (p := 1) (q := 0) (by decide) rfl rfl; exact fun e_ => h_ (by rw [e_]; exact H_57))
            replace W := W.wrote hw_59 hm_61
            replace O_60 : Ow (.st (.pair (.int .i64) (.sl (.int .u8)))) 64 w_58 w.heap.size (Kx K w.heap.size [some b_46, v_27.ownBlock, some b_1]) v_27 (c_26.set c_24.toNat y_40) (some m_16.2) := O_60
            refine wpList_nil ?_
            refine then_n ?_
            replace S := S.sub (l' := [(5, .int .i64 c_24), (6, .pointer (some (⟨b_46, 0, .none⟩ : Addr))), (24, .int .i64 c_24), (23, .int .i64 (lenI x0.2.2)), (22, v_21), (4, v_27)]) (by exact ⟨rfl, rfl, rfl, rfl, rfl, rfl, trivial⟩)
            refine wp_seq ?_
            refine wp_region_lit ?_
            refine wl_pure (l' := [(33, .pointer (some ((⟨b_46, 0, .none⟩ : Addr).add (coff (.pair (.int .i64) (.sl (.int .u8))) 1)))), (5, .int .i64 c_24), (6, .pointer (some (⟨b_46, 0, .none⟩ : Addr))), (24, .int .i64 c_24), (23, .int .i64 (lenI x0.2.2)), (22, v_21), (4, v_27)]) S tys tys_ok 1 (by kernel_rfl) ?_
            clear S; intro a S
            refine w_go S rfl (op_load (t := (.sl (.int .u8))) (x := y_40.2) S rfl ty51 rfl rfl rfl (RepAt.add 1 (RepAt.st (t := (.pair (.int .i64) (.sl (.int .u8)))) B_47.at_)) ?_)
            clear S; intro a v_62 R_63 S
            refine w_go S rfl (op_neqnil S rfl ty51 rfl rfl rfl R_63 ?_)
            clear S; intro a b_64 hb_65 S
            refine wpList_nil ?_
            refine then_n ?_
            replace S := S.sub (l' := [(35, .bool b_64), (5, .int .i64 c_24), (6, .pointer (some (⟨b_46, 0, .none⟩ : Addr))), (24, .int .i64 c_24), (23, .int .i64 (lenI x0.2.2)), (22, v_21), (4, v_27)]) (by exact ⟨rfl, rfl, rfl, rfl, rfl, rfl, rfl, trivial⟩)
            obtain ⟨ja_69, eja_69, hl_38⟩ := bindS hl_38
            obtain ⟨j_66, ej_66, hl_38⟩ := bindS hl_38
            refine wp_cut_ (fun a_ w_ => ∃ (v_67 : Value), St 45 a_ [(24, .int .i64 c_24), (23, .int .i64 (lenI x0.2.2)), (22, v_21), (4, v_67)] ∧ Wd w w_ [some b_46, v_67.ownBlock, some b_1] ∧ RepV (.sl (.st (.pair (.int .i64) (.sl (.int .u8))))) w_ (Kx K w.heap.size [some b_46, v_67.ownBlock, some b_1]) v_21 x0.2.2 ∧ Bx (.st (.pair (.st (.pair .bool (.pair (.int .u8) (.pair (.int .i64) (.pair (.sl (.sl (.int .u8))) (.int .i64)))))) (.pair (.int .i64) (.sl (.st (.pair (.int .i64) (.sl (.int .u8)))))))) 47 w_ (Kx K w.heap.size [some b_46, v_67.ownBlock, some b_1]) b_1 x0 ∧ Bx (.st (.pair (.int .i64) (.sl (.int .u8)))) 64 w_ (Kx K w.heap.size [some b_46, v_67.ownBlock, some b_1]) b_46 y_40 ∧ Ow (.st (.pair (.int .i64) (.sl (.int .u8)))) 64 w_ w.heap.size (Kx K w.heap.size [some b_46, v_67.ownBlock, some b_1]) v_67 j_66 (some m_16.2)) ?_ ?_
            · refine wp_cond_split (S.eval (show ev _ _ = some (.bool b_64) from rfl)) ?_ ?_
              · intro hc
                replace ej_66 := unkJ (z := ja_69) (f := fun (z_ : (List (Int × (Sl (Int))))) => (z_.map (fgc (.st (.pair (.int .i64) (.sl (.int .u8))))))) (g := fun (q_ z_ : (List (Int × (Sl (Int))))) => (z_.map (fgc (.st (.pair (.int .i64) (.sl (.int .u8)))))) = (q_.map (fgc (.st (.pair (.int .i64) (.sl (.int .u8))))))) ej_66
                refine wp_region_lit ?_
                refine wl_pure (l' := [(38, .pointer (some ((⟨b_46, 0, .none⟩ : Addr).add (coff (.pair (.int .i64) (.sl (.int .u8))) 1)))), (37, .int .i64 c_24), (36, v_27), (35, .bool b_64), (5, .int .i64 c_24), (6, .pointer (some (⟨b_46, 0, .none⟩ : Addr))), (24, .int .i64 c_24), (23, .int .i64 (lenI x0.2.2)), (22, v_21), (4, v_27)]) S tys tys_ok 3 (by kernel_rfl) ?_
                clear S; intro a S
                refine w_go S rfl (op_load (t := (.sl (.int .u8))) (x := y_40.2) S rfl ty51 rfl rfl rfl (RepAt.add 1 (RepAt.st (t := (.pair (.int .i64) (.sl (.int .u8)))) B_47.at_)) ?_)
                clear S; intro a v_71 R_72 S
                obtain ⟨t_73, et_73, eja_69⟩ := bindS eja_69
                refine w_go S rfl (op_call (vs := [v_71]) S rfl cb25 rfl rfl rfl (c25 (Kx K w.heap.size [some b_46, v_27.ownBlock, some b_1]) n w_58 y_40.2 _ R_72 et_73) ?_)
                rintro _ w_77 ⟨v_74, rfl, R_75, hb_76⟩; refine ⟨_, rfl, ?_⟩
                have NO_ := newO_of R_75 (Nat.le_refl _) hb_76
                replace R_75 := Ow.backO R_75 W
                clear S; intro a S
                replace R_22 := R_22.newO NO_
                replace R_72 := R_72.newO NO_
                replace B_2 := B_2.newO NO_
                replace B_47 := B_47.newO NO_
                replace O_60 := O_60.newO NO_
                replace W := W.newO NO_
                clear NO_
                obtain ⟨y_78, ey_78, eja_69⟩ := bindS eja_69
                refine w_go S rfl (op_indexAddr_own S rfl ty45 rfl rfl rfl O_60 rfl ey_78 ?_)
                clear S; intro a g_79 H_81 R_80 S
                refine wl_pure (l' := [(42, .pointer (some ((⟨g_79, c_24.toNat * GT.sz (.st (.pair (.int .i64) (.sl (.int .u8)))), .none⟩ : Addr).add (coff (.pair (.int .i64) (.sl (.int .u8))) 1)))), (41, .pointer (some (⟨g_79, c_24.toNat * GT.sz (.st (.pair (.int .i64) (.sl (.int .u8)))), .none⟩ : Addr))), (40, v_74), (39, v_71), (38, .pointer (some ((⟨b_46, 0, .none⟩ : Addr).add (coff (.pair (.int .i64) (.sl (.int .u8))) 1)))), (37, .int .i64 c_24), (36, v_27), (35, .bool b_64), (5, .int .i64 c_24), (6, .pointer (some (⟨b_46, 0, .none⟩ : Addr))), (24, .int .i64 c_24), (23, .int .i64 (lenI x0.2.2)), (22, v_21), (4, v_27)]) S tys tys_ok 1 (by kernel_rfl) ?_
                clear S; intro a S
                have R_82 : RepV (.sl (.int .u8)) w_77 (Kx K w.heap.size [some b_46, v_27.ownBlock, some b_1]) v_74 (⟨t_73.xs, t_73.cap⟩ : Sl (Int)) := R_75.pubAt W 0 rfl
                replace R_22 : RepV (.sl (.st (.pair (.int .i64) (.sl (.int .u8))))) w_77 (Kx K w.heap.size [some b_46, v_27.ownBlock, some b_1]) v_21 x0.2.2 := R_22.lessAt 0
                replace R_72 : RepV (.sl (.int .u8)) w_77 (Kx K w.heap.size [some b_46, v_27.ownBlock, some b_1]) v_71 y_40.2 := R_72.lessAt 0
                replace B_2 : Bx (.st (.pair (.st (.pair .bool (.pair (.int .u8) (.pair (.int .i64) (.pair (.sl (.sl (.int .u8))) (.int .i64)))))) (.pair (.int .i64) (.sl (.st (.pair (.int .i64) (.sl (.int .u8)))))))) 47 w_77 (Kx K w.heap.size [some b_46, v_27.ownBlock, some b_1]) b_1 x0 := B_2.lessAt 0
                replace B_47 : Bx (.st (.pair (.int .i64) (.sl (.int .u8)))) 64 w_77 (Kx K w.heap.size [some b_46, v_27.ownBlock, some b_1]) b_46 y_40 := B_47.lessAt 0
                replace O_60 : Ow (.st (.pair (.int .i64) (.sl (.int .u8)))) 64 w_77 w.heap.size (Kx K w.heap.size [some b_46, v_27.ownBlock, some b_1]) v_27 (c_26.set c_24.toNat y_40) (some m_16.2) := O_60.lessAt 0
                replace W : Wd w w_77 [some b_46, v_27.ownBlock, some b_1] := W.lessAt 0
                refine w_go S rfl (op_store_own (t' := (.sl (.int .u8))) S rfl rfl ty51 rfl (addr_add _ _ _) rfl O_60 H_81 1 rfl (idx_some ey_78).2.1 (Ln.st (Ln.comp 1)) (R_82 : RepV (.sl (.int .u8)) w_77 (Kx K w.heap.size [some b_46, v_27.ownBlock, some b_1]) _ (⟨t_73.xs, t_73.cap⟩ : Sl (Int))) ?_)
                intro w_83 hw_84 hm_86 O_85
                replace R_22 := R_22.wrote hw_84 hm_86
                replace R_72 := R_72.wrote hw_84 hm_86
                replace R_82 := R_82.wrote hw_84 hm_86
                replace B_2 := B_2.wrote hw_84 hm_86 (by have h_ := W.one (p := 1) (q := 2) (by decide) rfl rfl; exact fun e_ => h_ (by rw [e_]; exact H_81))
                replace B_47 := B_47.wrote hw_84 hm_86 (by have h_ := W.one (p := 1) (q := 0) (by decide) rfl rfl; exact fun e_ => h_ (by rw [e_]; exact H_81))
                replace W := W.wrote hw_84 hm_86
                replace O_85 : Ow (.st (.pair (.int .i64) (.sl (.int .u8)))) 64 w_83 w.heap.size (Kx K w.heap.size [some b_46, v_27.ownBlock, some b_1]) v_27 ((c_26.set c_24.toNat y_40).set c_24.toNat (y_78.1, (⟨t_73.xs, t_73.cap⟩ : Sl (Int)))) (some m_16.2) := O_85
                refine wpList_nil ?_
                refine then_n ?_
                obtain rfl := Option.some.inj eja_69
                subst ej_66
                have O_87 : Ow (.st (.pair (.int .i64) (.sl (.int .u8)))) 64 w_83 w.heap.size (Kx K w.heap.size [some b_46, v_27.ownBlock, some b_1]) v_27 (((c_26.set c_24.toNat y_40).set c_24.toNat (y_78.1, (⟨t_73.xs, t_73.cap⟩ : Sl (Int)))).map (fgc (.st (.pair (.int .i64) (.sl (.int .u8)))))) (some m_16.2) := O_85.fg
                exact ⟨v_27, S.sub (by exact ⟨rfl, rfl, rfl, rfl, trivial⟩), W, R_22, B_2, B_47, O_87⟩
              · intro hc
                rw [if_pos (hb_65 hc)] at ej_66; obtain ⟨jb_70, ejb_70, ej_66⟩ := bindS ej_66; by_cases hq_ : (ja_69.map (fgc (.st (.pair (.int .i64) (.sl (.int .u8)))))) = (jb_70.map (fgc (.st (.pair (.int .i64) (.sl (.int .u8))))))
                · rw [if_pos hq_] at ej_66; replace ej_66 := Option.some.inj ej_66; rw [hq_] at ej_66; replace ej_66 := Eq.symm ej_66
                  clear eja_69 hq_
                  refine wp_skip ?_
                  refine then_n ?_
                  obtain rfl := Option.some.inj ejb_70
                  subst ej_66
                  have O_88 : Ow (.st (.pair (.int .i64) (.sl (.int .u8)))) 64 w_58 w.heap.size (Kx K w.heap.size [some b_46, v_27.ownBlock, some b_1]) v_27 ((c_26.set c_24.toNat y_40).map (fgc (.st (.pair (.int .i64) (.sl (.int .u8)))))) (some m_16.2) := O_60.fg
                  exact ⟨v_27, S.sub (by exact ⟨rfl, rfl, rfl, rfl, trivial⟩), W, R_22, B_2, B_47, O_88⟩
                · rw [if_neg hq_] at ej_66; cases ej_66
            clear S W; rintro a w_89 ⟨v_67, S, W, R_22, B_2, B_47, O_68⟩
            refine blk_n ?_
            refine then_n ?_
            refine wp_region_lit ?_
            obtain ⟨x_90, ex_90, hl_38⟩ := bindS hl_38
            refine w_go S rfl (op_arith S .i64 (c_24 + 1) rfl (.inl rfl) rfl rfl rfl rfl ex_90 ?_)
            clear S; intro a S
            refine wl_pure (l' := [(24, .int .i64 x_90), (43, .int .i64 x_90), (24, .int .i64 c_24), (23, .int .i64 (lenI x0.2.2)), (22, v_21), (4, v_67)]) S tys tys_ok 1 (by kernel_rfl) ?_
            clear S; intro a S
            refine wpList_nil ?_
            refine then_n ?_
            exact ⟨x_90, j_66, ⟨v_67, S.sub (by exact ⟨rfl, rfl, rfl, rfl, trivial⟩), (W.drop 1), (ckI_some ex_90).2.1, (R_22.drop 1), (B_2.drop 1), (O_68.drop 1), hl_38⟩⟩
          · intro hc
            rw [if_neg (Bool.eq_false_iff.1 hc)] at hl_38
            refine wp_exit ?_
            refine then_x ?_
            refine then_x ?_
            refine blk_hit ?_
            refine then_n ?_
            obtain rfl := Option.some.inj hl_38
            exact ⟨v_27, S.sub (by exact ⟨rfl, trivial⟩), W, B_2, O_28⟩
    clear S W; rintro a w_91 ⟨v_35, S, W, B_2, O_36⟩
    refine then_n ?_
    refine wp_seq ?_
    refine wp_region_lit ?_
    refine wl_pure (l' := [(3, .bool true), (2, v_35), (44, v_35), (4, v_35)]) S tys tys_ok 3 (by kernel_rfl) ?_
    clear S; intro a S
    refine wpList_nil ?_
    refine then_n ?_
    replace S := S.sub (l' := [(3, .bool true), (2, v_35)]) (by exact ⟨rfl, rfl, trivial⟩)
    refine wp_ret ?_
    obtain rfl := Option.some.inj h
    exact b_ret2 S rfl rfl rfl ⟨_, _, rfl, (O_36.lessO 0 rfl), RepV.mkBool, W.below⟩
theorem cb20 : callB Try.prog 20 = true := by kernel_rfl

end Go.Proofs.Ytpllbhofpppfcaa
