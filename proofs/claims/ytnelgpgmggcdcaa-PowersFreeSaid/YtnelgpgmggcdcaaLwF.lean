/- Powers: the law of the greatest need, in plain words. Plain theorems, no condition. -/
import Derived.Test.YtnelgpgmggcdcaaLwA
import Derived.Test.YtnelgpgmggcdcaaPf1
set_option linter.unusedVariables false
set_option linter.unusedSimpArgs false
namespace Go.Proofs.Ytnelgpgmggcdcaa
open Go.RowKit

theorem Ask.at {l : List It} {k : Nat} {a b : Int} (h : Ask l k a) (hb : 0 ≤ b ∧ b ≤ 500) : Ask l k b := ⟨h.1, hb, h.2.2⟩
theorem p24_l1_eq {l : List It} {cp : Option Nat} (h : Good l) {n : Nat} (hn : 300 ≤ n) {k : Nat} (hA : Ask l k 0) : ∀ (m : Nat) (c : Nat), c ≤ 501 → c < m → (c = 501 ∨ admB l k c = false) →
    (p24_l1 n ⟨l, cp⟩ k m ((c : Int) - 1) = some (.inl ()) ∧ (∀ j : Nat, j < c → admB l k j = false)) ∨ ∃ j : Nat, j < c ∧ p24_l1 n ⟨l, cp⟩ k m ((c : Int) - 1) = some (.inr ((j : Int), 0)) ∧ admB l k j = true ∧ (j = 500 ∨ admB l k ((j : Int) + 1) = false)
  | 0, c, _, h, _ => absurd h (by omega)
  | m + 1, 0, _, _, _ => by
    left
    refine ⟨?_, fun j hj => absurd hj (by omega)⟩
    unfold p24_l1
    rw [if_neg (by decide)]
  | m + 1, c + 1, hc, hm, ha => by
    unfold p24_l1
    rw [show ((c + 1 : Nat) : Int) - 1 = (c : Int) by omega, if_pos (decide_eq_true (show (c : Int) ≥ 0 by omega)), p22_ok h hn (hA.at ⟨by omega, by omega⟩), Option.bind_some]
    dsimp only
    rw [if_neg (by decide)]
    cases hb : admB l k (c : Int) with
    | true =>
      right
      rw [if_pos rfl]
      refine ⟨c, by omega, rfl, hb, ?_⟩
      rcases ha with ha | ha
      · exact .inl (by omega)
      · right; rw [show (c : Int) + 1 = ((c + 1 : Nat) : Int) by simp]; exact ha
    | false =>
      rw [if_neg (by decide), ckS (by omega) (by omega), Option.bind_some]
      rcases p24_l1_eq (cp := cp) h hn hA m c (by omega) (by omega) (.inr hb) with ⟨h1, h2⟩ | ⟨j, h1, h2, h3, h4⟩
      · exact .inl ⟨h1, fun j hj => by
          by_cases e : j = c
          · subst e; exact hb
          · exact h2 j (by omega)⟩
      · exact .inr ⟨j, by omega, h2, h3, h4⟩
theorem p24_bad {l : List It} {cp : Option Nat} (h : Good l) {i : Int} (hA : ¬ ∃ k : Nat, i = k ∧ Ask l k 0) : p24 6000 ⟨l, cp⟩ i = some (0, 1) := by
  unfold p24
  have : p24_l1 6000 ⟨l, cp⟩ i 6000 500 = some (.inr (0, 1)) := by
    show p24_l1 6000 ⟨l, cp⟩ i (5999 + 1) 500 = _
    unfold p24_l1
    rw [if_pos (by decide), p22_bad h (by decide) (fun ⟨k, h1, h2⟩ => hA ⟨k, h1, h2.at ⟨by decide, by decide⟩⟩), Option.bind_some]
    rfl
  rw [this]
  rfl
theorem p6_law {x : Sl (Int × Int × Int × Int)} {i : Int} (F : Fine (.sl (.st (.pair (.int .u8) (.pair (.int .u8) (.pair (.int .u8) (.int .u16)))))) x) (G1 : InR .i64 i) : p6 6000 x i = some true := by
  obtain ⟨l, h1, h, h40⟩ := p9_ok (n := 6000) (by decide) (In9_of F)
  have hw := h.wt
  unfold p6
  rw [h1, Option.bind_some]
  dsimp only
  by_cases hA : ∃ k : Nat, i = k ∧ Ask l k 0
  · obtain ⟨k, rfl, hA⟩ := hA
    rw [p23_ok h (by decide) hA]
    have e : ∃ r : Int, p24 6000 ⟨l, .none⟩ k = some (r, 0) ∧ -1 ≤ r ∧ r ≤ 500 ∧ (0 ≤ r → admB l k r = true) ∧ (r = 500 ∨ admB l k (r + 1) = false) := by
      unfold p24
      rcases p24_l1_eq (cp := .none) h (n := 6000) (by decide) hA 6000 501 (by decide) (by decide) (.inl rfl) with ⟨h1, h2⟩ | ⟨j, h1, h2, h3, h4⟩
      · rw [show (500 : Int) = ((501 : Nat) : Int) - 1 from rfl, h1, Option.bind_some]
        exact ⟨-1, rfl, by decide, by decide, fun h => absurd h (by decide), .inr (h2 0 (by decide))⟩
      · rw [show (500 : Int) = ((501 : Nat) : Int) - 1 from rfl, h2, Option.bind_some]
        exact ⟨j, rfl, by omega, by omega, fun _ => h3, by
          rcases h4 with h4 | h4
          · exact .inl (by omega)
          · exact .inr h4⟩
    obtain ⟨r, e1, e2, e3, e4, e5⟩ := e
    rw [e1, Option.bind_some, Option.bind_some, if_neg (by cases admB l k 0 <;> decide)]
    dsimp only
    rw [show (if ((0 : Int) != 0) = false then some (decide (r < -1)) else some true) = some false by rw [decide_eq_false (by omega)]; rfl, Option.bind_some, if_pos rfl, decide_eq_false (show ¬ r > 500 by omega), Option.bind_some, if_neg (by decide)]
    have q1 : (if decide (r < 0) = false then (p23 6000 ⟨l, .none⟩ k r).bind fun t_29 => some (t_29 == 1) else some true) = some true := by
      by_cases h0 : r < 0
      · rw [decide_eq_true h0, if_neg (by decide)]
      · rw [decide_eq_false h0, if_pos rfl, p23_ok h (by decide) (hA.at ⟨by omega, by omega⟩), e4 (by omega)]; rfl
    have q2 : (if (r == 500) = false then (ckI .i64 (r + 1)).bind fun x_37 => (p23 6000 ⟨l, .none⟩ k x_37).bind fun t_38 => some (t_38 == 0) else some true) = some true := by
      by_cases h5 : r = 500
      · rw [h5]; rfl
      · rw [if_pos (by simpa using h5), ckS (by omega) (by omega), Option.bind_some, p23_ok h (by decide) (hA.at ⟨by omega, by omega⟩), e5.resolve_left h5]; rfl
    rw [q1, Option.bind_some, if_pos rfl, q2, Option.bind_some, Option.bind_some, if_pos rfl, lives]
    rfl
  · rw [p24_bad h hA, Option.bind_some, p23_bad h (by decide) hA, Option.bind_some, if_pos (by rfl)]
    dsimp only
    rw [lives]
    rfl
end Go.Proofs.Ytnelgpgmggcdcaa
