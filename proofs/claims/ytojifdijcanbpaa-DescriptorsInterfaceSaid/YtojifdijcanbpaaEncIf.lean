/- The walk of EncodeInterface. -/
import Derived.Test.YtojifdijcanbpaaEncEp
set_option linter.unusedSimpArgs false
set_option linter.unusedVariables false
namespace Go.Proofs.Ytojifdijcanbpaa
open Go.RowKit

/-! ### interfaces -/
abbrev ifV (n a e c s p t : Int) : Value := .agg #[.int .u8 n, .int .u8 a, .int .u8 e, .int .u8 c, .int .u8 s, .int .u8 p, .int .u8 t]
def ifB (n a e : Int) : Bool := decide (n ≤ 15 ∧ a ≤ 15 ∧ e ≤ 30)
def ifL (n a e c s p t : Int) : List Int := if ifB n a e then [9, 4, n, a, e, c, s, p, t] else []
theorem if_no {n a e c s p t : Int} (h : ¬ (n ≤ 15 ∧ a ≤ 15 ∧ e ≤ 30)) : ifL n a e c s p t = [] := by simp [ifL, ifB, h]
theorem if_yes {n a e c s p t : Int} (h : n ≤ 15 ∧ a ≤ 15 ∧ e ≤ 30) : ifL n a e c s p t = [9, 4, n, a, e, c, s, p, t] := by simp [ifL, ifB, h]

set_option maxHeartbeats 4000000 in
set_option maxRecDepth 100000 in
theorem encIf_any (n a e c s p t : Int) (w : World) (h1 : U8 n) (h2 : U8 a) (h3 : U8 e) (h4 : U8 c) (h5 : U8 s) (h6 : U8 p) (h7 : U8 t) :
    Calls Try.prog 30 #[ifV n a e c s p t] w (EncPost (ifL n a e c s p t) w) := by
  obtain ⟨_, _⟩ := h1
  obtain ⟨_, _⟩ := h2
  obtain ⟨_, _⟩ := h3
  go_enter Try.func30, Try.ntmps30
  go_wp2_with (go_at_call 41; refine (join_any _ [n, a, e, c, s, p, t] _ 7 _ rfl (by omega) _ ?_).mono ?_; (exact heap_new (by simp)); rintro e' w1 ⟨v, rfl, ⟨g, rfl, hn, hg⟩, hb1⟩)
  all_goals go_ret2
  any_goals exact encPost_no (if_no (by omega)) ((Below.refl _ _).alloc (Nat.le_refl _) _)
  exact encPost_yes (if_yes (by omega)) rfl (by simp) rfl (by simpa using hg) (((Below.refl _ _).alloc (Nat.le_refl _) _).trans (((Below.refl _ _).alloc (by simp) _).trans (hb1.mono (by simp; omega))))

end Go.Proofs.Ytojifdijcanbpaa
