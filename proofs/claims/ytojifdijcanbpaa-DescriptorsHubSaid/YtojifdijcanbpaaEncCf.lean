/- The walk of EncodeConfiguration. -/
import Derived.Test.YtojifdijcanbpaaEncEp
set_option linter.unusedSimpArgs false
set_option linter.unusedVariables false
namespace Go.Proofs.Ytojifdijcanbpaa
open Go.RowKit

/-! ### configurations -/
abbrev cfV (T n u t : Int) (s k : Bool) (p : Int) : Value := .agg #[.int .u16 T, .int .u8 n, .int .u8 u, .int .u8 t, .bool s, .bool k, .int .u8 p]
def cfB (T n u p : Int) : Bool := decide (9 ≤ T ∧ T ≤ 4096 ∧ 1 ≤ n ∧ n ≤ 16 ∧ 1 ≤ u ∧ p ≤ 250)
def attr (s k : Bool) : Int := 128 + (if s then 64 else 0) + (if k then 32 else 0)
def cfL (T n u t : Int) (s k : Bool) (p : Int) : List Int := if cfB T n u p then [9, 2, T % 256, T / 256, n, u, t, attr s k, p] else []

theorem cf_no {T n u t p : Int} {s k : Bool} (h : ¬ (9 ≤ T ∧ T ≤ 4096 ∧ 1 ≤ n ∧ n ≤ 16 ∧ 1 ≤ u ∧ p ≤ 250)) : cfL T n u t s k p = [] := by simp [cfL, cfB, h]
theorem cf_yes {T n u t p : Int} {s k : Bool} (h : 9 ≤ T ∧ T ≤ 4096 ∧ 1 ≤ n ∧ n ≤ 16 ∧ 1 ≤ u ∧ p ≤ 250) : cfL T n u t s k p = [9, 2, T % 256, T / 256, n, u, t, attr s k, p] := by simp [cfL, cfB, h]

set_option maxHeartbeats 4000000 in
set_option maxRecDepth 100000 in
theorem encCf_any (T n u t : Int) (s k : Bool) (p : Int) (w : World) (h1 : U16 T) (h2 : U8 n) (h3 : U8 u) (h4 : U8 t) (h5 : U8 p) :
    Calls Try.prog 18 #[cfV T n u t s k p] w (EncPost (cfL T n u t s k p) w) := by
  obtain ⟨_, _⟩ := h1
  obtain ⟨_, _⟩ := h2
  obtain ⟨_, _⟩ := h3
  obtain ⟨_, _⟩ := h5
  have b1 : bits BinOp.or IntKind.u8 128 64 = 192 := by decide +kernel
  have b2 : bits BinOp.or IntKind.u8 128 32 = 160 := by decide +kernel
  have b3 : bits BinOp.or IntKind.u8 192 32 = 224 := by decide +kernel
  cases s <;> cases k
  all_goals
    go_enter Try.func18, Try.ntmps18
    go_wp2_with fail
  all_goals try (
    go_ret2
    exact encPost_no (cf_no (by omega)) ((Below.refl _ _).alloc (Nat.le_refl _) _))
  all_goals
    refine wp_region_run [[], [(0, 41)], [(1, 42)], [], [(3, 44)], [(4, 45)], [], [(6, 47)], [], [(8, 49)], [], [(10, 51)], [], [], [(13, 54)], [(2, 43), (5, 46), (7, 48), (9, 50), (11, 52), (12, 53), (14, 55)], [(15, 56)], [(16, 57)], []] (by kernel_rfl) (by kernel_rfl) (by kernel_rfl) (by kernel_rfl) ?_
    repeat (first
      | (apply RunOk.eq
         · intro W hW
           have hc := bcell hW
           simp only [FillDeps, List.nil_append, List.cons_append, List.getD_cons_zero, List.getD_cons_succ, eqv, forall_eq]
           first
             | (rintro _ ⟨g, rfl, hn, hg⟩
                have hs := fun c => str_new (P := Try.prog) (c := c) 23 9 5 Try.underlying23 Try.underlying5 Try.underlying9 _ hg hn rfl)
             | skip
           try simp only [Act.put, List.setIfInBounds_toArray, List.set_cons_zero, List.set_cons_succ]
           go_wp2_with (first | (go_at_call 41; refine (join_any _ _ _ _ _ hn (by omega) _ hg).mono ?_; rintro e w' ⟨v, rfl, hu, hb⟩) | (go_at_call 42; refine (low_any _ _ (by omega) (by omega)).mono ?_; rintro e w' ⟨rfl, rfl⟩) | (go_at_call 43; refine (high_any _ _ (by omega) (by omega)).mono ?_; rintro e w' ⟨rfl, rfl⟩))
           refine ⟨rfl, ?_, by first | exact Below.refl _ _ | assumption⟩
           unfold eqv
           conv => lhs; whnf)
      | (apply RunOk.u8
         · intro W hW
           have hc := bcell hW
           simp only [FillDeps, List.nil_append, List.cons_append, List.getD_cons_zero, List.getD_cons_succ, eqv, forall_eq]
           first
             | (rintro _ ⟨g, rfl, hn, hg⟩)
             | skip
           try simp only [Act.put, List.setIfInBounds_toArray, List.set_cons_zero, List.set_cons_succ]
           go_wp2_with (first | (go_at_call 41; refine (join_any _ _ _ _ _ hn (by omega) _ hg).mono ?_; rintro e w' ⟨v, rfl, hu, hb⟩) | (go_at_call 42; refine (low_any _ _ (by omega) (by omega)).mono ?_; rintro e w' ⟨rfl, rfl⟩) | (go_at_call 43; refine (high_any _ _ (by omega) (by omega)).mono ?_; rintro e w' ⟨rfl, rfl⟩))
           refine ⟨rfl, ?_, by first | exact Below.refl _ _ | exact (Below.refl _ _).alloc (by simp) _ | assumption⟩
           first | exact isU8_1 | exact isU8_2 | exact isU8_3 | exact isU8_4 | exact isU8_5 | exact isU8_7 | exact isU8_16 | assumption | exact ⟨_, rfl, hn, hg⟩))
    intro W hW
    have hc := bcell hW
    simp only [EndOk, List.nil_append, List.cons_append, List.getD_cons_zero, List.getD_cons_succ, eqv, forall_eq]
    repeat (rintro _ ⟨_, rfl, _, _⟩)
    try simp only [Act.put, List.setIfInBounds_toArray, List.set_cons_zero, List.set_cons_succ]
    go_wp2
    go_ret2
    refine encPost_yes (cf_yes (by omega)) rfl (by decide) rfl ?_ (((Below.refl _ _).alloc (Nat.le_refl _) _).trans (hW.mono (by simp)))
    rename_i h
    simpa [attr] using h


end Go.Proofs.Ytojifdijcanbpaa
