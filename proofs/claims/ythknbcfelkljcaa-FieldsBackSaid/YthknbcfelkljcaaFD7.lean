/- Fields in plain words: the fields of a descriptor. Plain theorems, no condition. -/
import Derived.Test.YthknbcfelkljcaaPb1
import Derived.Test.YthknbcfelkljcaaFD6
set_option linter.unusedVariables false
set_option linter.unusedSimpArgs false
namespace Go.Proofs.Ythknbcfelkljcaa
open Go.RowKit
abbrev Dy := Int × Int × Int × Int × Int × Int × Int × Int
def Dok (y : Dy) : Prop := (0 ≤ y.1 ∧ y.1 ≤ 255) ∧ (0 ≤ y.2.1 ∧ y.2.1 ≤ 255) ∧ (0 ≤ y.2.2.2.1 ∧ y.2.2.2.1 ≤ 255) ∧ (-32768 ≤ y.2.2.2.2.1 ∧ y.2.2.2.2.1 ≤ 32767) ∧ (0 ≤ y.2.2.2.2.2.1 ∧ y.2.2.2.2.2.1 ≤ 65535) ∧ (0 ≤ y.2.2.2.2.2.2.1 ∧ y.2.2.2.2.2.2.1 ≤ 255)
structure FB (f : Fd) : Prop where
  S : 1 ≤ fS f ∧ fS f ≤ 18
  C : 1 ≤ fC f ∧ fC f ≤ 6
  R : -32768 ≤ fLo f ∧ fLo f ≤ fHi f ∧ fHi f ≤ 98302
  U : 1 ≤ (fU f).xs.length ∧ (fU f).xs.length ≤ 6
  nd : ∀ (a b : Nat) (u : Int), (fU f).xs[a]? = some u → (fU f).xs[b]? = some u → a = b
  fit : ∀ v, fLo f ≤ v → v ≤ fHi f → e_A f v = true
def ub (B : Int) (j : Nat) : Int := IntKind.wrap .u32 (B + IntKind.wrap .u32 (j : Int))
theorem ub_inj {B : Int} {a b : Nat} (ha : a < 6) (hb : b < 6) (h : ub B a = ub B b) : a = b := by
  unfold ub at h
  rw [IntKind.wrap_u32, IntKind.wrap_u32, IntKind.wrap_u32, IntKind.wrap_u32] at h
  omega
theorem p40_l1_eq (n : Nat) (y : Dy) (hy : 0 ≤ y.2.2.2.1 ∧ y.2.2.2.1 ≤ 255) (q : Nat) (hq : y.2.2.2.1 % 6 = (q : Int)) : ∀ (m k : Nat), q + 1 - k < m → k ≤ q + 1 →
    p40_l1 n y m k ((List.range k).map (ub (a_l .or .u32 458752 y.2.2.1))) = some ((List.range (q + 1)).map (ub (a_l .or .u32 458752 y.2.2.1))) := by
  intro m
  induction m with
  | zero => intro k hm; exact absurd hm (by omega)
  | succ m ih =>
    intro k hm hk
    have r6 : b_J .u8 y.2.2.2.1 6 = some (y.2.2.2.1 % 6) := b_O hy.1 (by decide) (inR_u8.2 (by omega))
    rw [p40_l1, r6, Option.bind_some, hq]
    by_cases hlt : k ≤ q
    · have e : (List.range (k + 1)).map (ub (a_l .or .u32 458752 y.2.2.1)) = (List.range k).map (ub (a_l .or .u32 458752 y.2.2.1)) ++ [ub (a_l .or .u32 458752 y.2.2.1) k] := by
        rw [List.range_succ, List.map_append]; rfl
      rw [c_s (by omega), b_6 (by rw [List.length_map, List.length_range]; omega), Option.bind_some, ckS (by omega) (by omega), Option.bind_some, a_3]
      have := ih (k + 1) (by omega) (by omega)
      rw [e] at this
      exact this
    · rw [c_E (by omega), show k = q + 1 by omega]
abbrev Fe := Int × Int × Int × Int × Int × Int × Int × Int × Bool × Bool × Bool × Bool
@[reducible] def Fe.set (t : Fe) (s : Int) : Fe := (t.1, t.2.1, t.2.2.1, t.2.2.2.1, t.2.2.2.2.1, s, t.2.2.2.2.2.2.1, t.2.2.2.2.2.2.2.1, t.2.2.2.2.2.2.2.2.1, t.2.2.2.2.2.2.2.2.2.1, t.2.2.2.2.2.2.2.2.2.2.1, t.2.2.2.2.2.2.2.2.2.2.2)
theorem p40_l2_eq (n : Nat) (t : Fe) (h1 : -32768 ≤ t.2.2.2.1) (h2 : t.2.2.2.2.1 ≤ 98302) : ∀ (m s : Nat), 18 - s < m → 1 ≤ s → s ≤ 18 → ∃ q : Nat, 1 ≤ q ∧ q ≤ 18 ∧ p40_l2 n m (t.set (s : Int)) = some (t.set (q : Int)) ∧ t.2.2.2.2.1 < 2 ^ q ∧ (t.2.2.2.1 < 0 → -(2 ^ (q - 1)) ≤ t.2.2.2.1 ∧ t.2.2.2.2.1 < 2 ^ (q - 1)) := by
  intro m
  induction m with
  | zero => intro s hm; exact absurd hm (by omega)
  | succ m ih =>
    intro s hm hs1 hs2
    have hp := b_c s
    have hp1 := b_c (s - 1)
    have hle : (2 : Int) ^ s ≤ 2 ^ 40 := d_v (by omega)
    have hle1 : (2 : Int) ^ (s - 1) ≤ 2 ^ 40 := d_v (by omega)
    have e40 : (2 : Int) ^ 40 = 1099511627776 := by decide
    have s1 : c_J .i64 1 (s : Int) = some (2 ^ s) := by
      have := c_g (x := 1) (i := s) (by omega) (by decide) (by decide)
      rw [Int.one_mul] at this; exact this
    have s2 : c_J .i64 1 ((s - 1 : Nat) : Int) = some (2 ^ (s - 1)) := by
      have := c_g (x := 1) (i := s - 1) (by omega) (by decide) (by decide)
      rw [Int.one_mul] at this; exact this
    have c1 : ckI .i64 ((s : Int) - 1) = some ((s - 1 : Nat) : Int) := by
      rw [show (s : Int) - 1 = ((s - 1 : Nat) : Int) by omega]; exact ckS (by omega) (by omega)
    rw [p40_l2]
    simp only [Fe.set]
    rw [s1, Option.bind_some]
    have eI : ((if (decide (t.2.2.2.2.1 ≥ 2 ^ s)) = false then (if (decide (t.2.2.2.1 < 0)) = true then (ckI .i64 ((s : Int) - 1)).bind fun x_127 => (c_J .i64 1 x_127).bind fun x_128 => (ckI .i64 (0 - x_128)).bind fun x_129 => (if (decide (t.2.2.2.1 < x_129)) = false then (ckI .i64 ((s : Int) - 1)).bind fun x_135 => (c_J .i64 1 x_135).bind fun x_136 => some (decide (t.2.2.2.2.1 ≥ x_136)) else some true).bind fun q_130 => some q_130 else some false).bind fun q_122 => some q_122 else some true) : Option Bool) = some (decide (t.2.2.2.2.1 ≥ 2 ^ s ∨ (t.2.2.2.1 < 0 ∧ (t.2.2.2.1 < 0 - 2 ^ (s - 1) ∨ t.2.2.2.2.1 ≥ 2 ^ (s - 1))))) := by
      by_cases a1 : t.2.2.2.2.1 ≥ 2 ^ s
      · rw [decide_eq_true a1, if_neg (by decide), decide_eq_true (Or.inl a1)]
      · rw [decide_eq_false a1, if_pos rfl]
        by_cases a2 : t.2.2.2.1 < 0
        · rw [decide_eq_true a2, if_pos rfl, c1, Option.bind_some, s2, Option.bind_some, ckS (by omega) (by omega), Option.bind_some]
          by_cases a3 : t.2.2.2.1 < 0 - 2 ^ (s - 1)
          · rw [decide_eq_true a3, if_neg (by decide), decide_eq_true (Or.inr ⟨a2, .inl a3⟩)]; rfl
          · rw [decide_eq_false a3, if_pos rfl, Option.bind_some, s2, Option.bind_some, Option.bind_some, Option.bind_some]
            refine congrArg some (decide_eq_decide.2 ?_)
            constructor
            · intro h; exact .inr ⟨a2, .inr h⟩
            · rintro (h | ⟨_, h | h⟩)
              · exact absurd h a1
              · exact absurd h a3
              · exact h
        · rw [decide_eq_false a2, if_neg (by decide), Option.bind_some, decide_eq_false]
          rintro (h | ⟨h, _⟩)
          · exact a1 h
          · exact a2 h
    rw [eI, Option.bind_some]
    by_cases hc : t.2.2.2.2.1 ≥ 2 ^ s ∨ (t.2.2.2.1 < 0 ∧ (t.2.2.2.1 < 0 - 2 ^ (s - 1) ∨ t.2.2.2.2.1 ≥ 2 ^ (s - 1)))
    · have hs : s < 18 := by
        rcases Nat.lt_or_ge s 18 with h | h
        · exact h
        · have e18 : s = 18 := by omega
          subst e18
          have q1 : (2 : Int) ^ 18 = 262144 := by decide
          have q2 : (2 : Int) ^ (18 - 1) = 131072 := by decide
          rw [q1, q2] at hc
          omega
      obtain ⟨q, b1, b2, b3, b4⟩ := ih (s + 1) (by omega) (by omega) (by omega)
      rw [c_s hc, ckS (by omega) (by omega), Option.bind_some, a_3]
      exact ⟨q, b1, b2, b3, b4⟩
    · rw [c_E hc]
      refine ⟨s, hs1, hs2, rfl, by omega, fun h => ?_⟩
      omega
theorem p40_ok {n : Nat} (hn : 1100 ≤ n) (x0 : Bool × Sl Dy) (i : Nat) (y : Dy) (hi : idx x0.2.xs (i : Int) = some y) (hy : Dok y) : ∃ f, p40 n x0 (i : Int) = some f ∧ FB f ∧ fA f = 0 := by
  obtain ⟨y1, y2, y4, y5, y6, y7⟩ := hy
  obtain ⟨q, hq⟩ := Int.eq_ofNat_of_zero_le (Int.emod_nonneg y.2.2.2.1 (show (6 : Int) ≠ 0 by decide))
  have hq6 : q < 6 := by omega
  have hu := p40_l1_eq n y y4 q hq n 0 (by omega) (by omega)
  rw [show ((0 : Nat) : Int) = 0 from rfl, show (List.range 0).map (ub (a_l .or .u32 458752 y.2.2.1)) = [] from rfl] at hu
  have r1 : b_J .u8 y.1 3 = some (y.1 % 3) := b_O y1.1 (by decide) (inR_u8.2 (by omega))
  have r2 : b_J .u8 y.2.1 3 = some (y.2.1 % 3) := b_O y2.1 (by decide) (inR_u8.2 (by omega))
  have r7 : b_J .u8 y.2.2.2.2.2.2.1 6 = some (y.2.2.2.2.2.2.1 % 6) := b_O y7.1 (by decide) (inR_u8.2 (by omega))
  have hj : ∃ R : Int, (if x0.1 = true then ((b_J .u8 y.2.1 3).bind fun x_63 => some (IntKind.wrap .u8 (1 + y.1 % 3), IntKind.wrap .u8 (1 + x_63), (0 : Int), y.2.2.2.2.1, y.2.2.2.2.1 + y.2.2.2.2.2.1, (0 : Int), 1 + y.2.2.2.2.2.2.1 % 6, (0 : Int), ((a_l .and .u8 y.2.2.2.2.2.2.2 1) != 0), ((a_l .and .u8 y.2.2.2.2.2.2.2 2) == 0), (decide (y.2.2.2.2.1 < 0)), ((a_l .and .u8 y.2.2.2.2.2.2.2 4) != 0))) else some (IntKind.wrap .u8 (1 + y.1 % 3), (0 : Int), (0 : Int), y.2.2.2.2.1, y.2.2.2.2.1 + y.2.2.2.2.2.1, (0 : Int), 1 + y.2.2.2.2.2.2.1 % 6, (0 : Int), ((a_l .and .u8 y.2.2.2.2.2.2.2 1) != 0), ((a_l .and .u8 y.2.2.2.2.2.2.2 2) == 0), (decide (y.2.2.2.2.1 < 0)), ((a_l .and .u8 y.2.2.2.2.2.2.2 4) != 0))) = some ((IntKind.wrap .u8 (1 + y.1 % 3), R, 0, y.2.2.2.2.1, y.2.2.2.2.1 + y.2.2.2.2.2.1, 0, 1 + y.2.2.2.2.2.2.1 % 6, 0, ((a_l .and .u8 y.2.2.2.2.2.2.2 1) != 0), ((a_l .and .u8 y.2.2.2.2.2.2.2 2) == 0), (decide (y.2.2.2.2.1 < 0)), ((a_l .and .u8 y.2.2.2.2.2.2.2 4) != 0)) : Fe) := by
    by_cases h : x0.1 = true
    · rw [if_pos h, r2, Option.bind_some]; exact ⟨_, rfl⟩
    · rw [if_neg h]; exact ⟨_, rfl⟩
  obtain ⟨R, hj⟩ := hj
  obtain ⟨s, b1, b2, b3, b4, b5⟩ := p40_l2_eq n (IntKind.wrap .u8 (1 + y.1 % 3), R, 0, y.2.2.2.2.1, y.2.2.2.2.1 + y.2.2.2.2.2.1, 0, 1 + y.2.2.2.2.2.2.1 % 6, 0, ((a_l .and .u8 y.2.2.2.2.2.2.2 1) != 0), ((a_l .and .u8 y.2.2.2.2.2.2.2 2) == 0), (decide (y.2.2.2.2.1 < 0)), ((a_l .and .u8 y.2.2.2.2.2.2.2 4) != 0)) (by simp only; omega) (by simp only; omega) n 1 (by omega) (by omega) (by omega)
  rw [show ((1 : Nat) : Int) = 1 from rfl] at b3
  simp only [Fe.set] at b3
  unfold p40
  rw [hi, Option.bind_some, r1, Option.bind_some, ckS (by omega) (by omega), Option.bind_some, r7, Option.bind_some, ckS (by omega) (by omega), Option.bind_some, hj, Option.bind_some, hu, Option.bind_some]
  simp only
  rw [b3, Option.bind_some]
  refine ⟨_, rfl, ⟨?_, ?_, ?_, ?_, ?_, ?_⟩, rfl⟩
  · show 1 ≤ (s : Int) ∧ (s : Int) ≤ 18
    omega
  · show 1 ≤ 1 + y.2.2.2.2.2.2.1 % 6 ∧ 1 + y.2.2.2.2.2.2.1 % 6 ≤ 6
    omega
  · show -32768 ≤ y.2.2.2.2.1 ∧ y.2.2.2.2.1 ≤ y.2.2.2.2.1 + y.2.2.2.2.2.1 ∧ y.2.2.2.2.1 + y.2.2.2.2.2.1 ≤ 98302
    omega
  · show 1 ≤ ((List.range (q + 1)).map _).length ∧ ((List.range (q + 1)).map _).length ≤ 6
    rw [List.length_map, List.length_range]; omega
  · intro a b u ha hb
    have ha : ((List.range (q + 1)).map (ub (a_l .or .u32 458752 y.2.2.1)))[a]? = some u := ha
    have hb : ((List.range (q + 1)).map (ub (a_l .or .u32 458752 y.2.2.1)))[b]? = some u := hb
    rw [List.getElem?_map] at ha hb
    have key : ∀ c : Nat, Option.map (ub (a_l .or .u32 458752 y.2.2.1)) (List.range (q + 1))[c]? = some u → c < q + 1 ∧ ub (a_l .or .u32 458752 y.2.2.1) c = u := by
      intro c hc
      by_cases h : c < q + 1
      · rw [List.getElem?_range h] at hc
        exact ⟨h, Option.some.inj hc⟩
      · rw [List.getElem?_eq_none (by rw [List.length_range]; omega)] at hc
        cases hc
    have k1 := key a ha
    have k2 := key b hb
    exact ub_inj (by omega) (by omega) (k1.2.trans k2.2.symm)
  · intro v h1 h2
    have h1 : y.2.2.2.2.1 ≤ v := h1
    have h2 : v ≤ y.2.2.2.2.1 + y.2.2.2.2.2.1 := h2
    have b4 : y.2.2.2.2.1 + y.2.2.2.2.2.1 < 2 ^ s := b4
    have b5 : y.2.2.2.2.1 < 0 → -(2 ^ (s - 1)) ≤ y.2.2.2.2.1 ∧ y.2.2.2.2.1 + y.2.2.2.2.2.1 < 2 ^ (s - 1) := b5
    have e2 : (2 : Int) ^ s / 2 = 2 ^ (s - 1) := by
      obtain ⟨t, rfl⟩ : ∃ t, s = t + 1 := ⟨s - 1, by omega⟩
      rw [b_v, Nat.add_sub_cancel]; omega
    show (if decide (y.2.2.2.2.1 < 0) = true then decide (-(2 ^ ((s : Int)).toNat / 2) ≤ v ∧ v < 2 ^ ((s : Int)).toNat / 2) else decide (0 ≤ v ∧ v < 2 ^ ((s : Int)).toNat)) = true
    rw [Int.toNat_natCast, e2]
    by_cases hl : y.2.2.2.2.1 < 0
    · have := b5 hl
      rw [c_s hl]
      exact decide_eq_true (by omega)
    · rw [c_E hl]
      exact decide_eq_true (by omega)
end Go.Proofs.Ythknbcfelkljcaa
