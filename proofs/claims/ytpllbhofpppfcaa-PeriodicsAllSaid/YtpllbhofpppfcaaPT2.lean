/- Periods in plain words: which ticks are due, and how many. Plain theorems, no condition. -/
import Derived.Test.YtpllbhofpppfcaaPT1
import Derived.Test.YtpllbhofpppfcaaXP2
set_option linter.unusedVariables false
set_option linter.unusedSimpArgs false
namespace Go.Proofs.Ytpllbhofpppfcaa
open Go.RowKit

def Pos (p q : Int) : Prop := p ∈ L9 ∧ 0 ≤ q ∧ q < p
instance (p q : Int) : Decidable (Pos p q) := inferInstanceAs (Decidable (p ∈ L9 ∧ 0 ≤ q ∧ q < p))
theorem l9 {p : Int} (h : p ∈ L9) : p = 1 ∨ p = 2 ∨ p = 4 ∨ p = 8 ∨ p = 16 ∨ p = 32 ∨ p = 64 ∨ p = 128 ∨ p = 256 := by simpa [L9] using h
theorem pow_all : ((List.range 256).all fun j => ((bitsI .and .i64 ((j : Nat) + 1 : Int) ((j : Nat) : Int)) == 0) == L9.contains ((j : Nat) + 1 : Int)) = true := by kernel_rfl
theorem p23_eq (p q : Int) : p23 6000 p q = some (decide (Pos p q)) := by
  unfold p23
  by_cases h1 : 1 ≤ p
  · by_cases h2 : p ≤ 256
    · have h3 := List.all_eq_true.1 pow_all (p.toNat - 1) (List.mem_range.2 (by omega))
      rw [show (((p.toNat - 1 : Nat) : Int) + 1 : Int) = p by omega, show ((p.toNat - 1 : Nat) : Int) = p - 1 by omega] at h3
      simp (disch := omega) only [ckS, Option.bind_some, h1, h2, ge_iff_le, decide_true, dif_true_]
      rw [eq_of_beq h3]
      by_cases hm : p ∈ L9
      · rw [show L9.contains p = true by simpa using hm]
        by_cases h4 : 0 ≤ q <;> by_cases h5 : q < p <;> simp [Pos, hm, h4, h5]
      · rw [show L9.contains p = false by simpa using hm]
        simp [Pos, hm]
    · have hm : p ∉ L9 := fun h => by rcases l9 h with h | h | h | h | h | h | h | h | h <;> omega
      simp [h1, h2, Pos, hm]
  · have hm : p ∉ L9 := fun h => by rcases l9 h with h | h | h | h | h | h | h | h | h <;> omega
    simp [h1, Pos, hm]
theorem p11_eq (p q : Int) : p11 6000 p q = some (decide (Pos p q)) := by
  have key : ∃ y, p11_l1 6000 p 6000 1 = some y ∧ ((y == p) = L9.contains p) := by
    by_cases hm : p ∈ L9
    · refine ⟨p, ?_, by simpa using hm⟩
      rcases l9 hm with rfl | rfl | rfl | rfl | rfl | rfl | rfl | rfl | rfl <;> rfl
    · refine ⟨256, ?_, ?_⟩
      · have hn : ∀ c : Int, c ∈ L9 → (c != p) = true := fun c hc => by
          rw [bne_iff_ne]; rintro rfl; exact hm hc
        have st : ∀ (m : Nat) (c : Int), c ∈ L9 → c < 256 → p11_l1 6000 p (m + 1) c = p11_l1 6000 p m (c * 2) := by
          intro m c hc h1
          have := l9 hc
          rw [p11_l1, if_pos (by simpa using h1), Option.bind_some, hn c hc, if_pos rfl, ck_i64 (by omega), Option.bind_some]
        rw [show (6000 : Nat) = 5991 + 1 + 1 + 1 + 1 + 1 + 1 + 1 + 1 + 1 from rfl, st _ 1 (by decide) (by decide), st _ (1 * 2) (by decide) (by decide), st _ (1 * 2 * 2) (by decide) (by decide), st _ (1 * 2 * 2 * 2) (by decide) (by decide),
          st _ (1 * 2 * 2 * 2 * 2) (by decide) (by decide), st _ (1 * 2 * 2 * 2 * 2 * 2) (by decide) (by decide), st _ (1 * 2 * 2 * 2 * 2 * 2 * 2) (by decide) (by decide), st _ (1 * 2 * 2 * 2 * 2 * 2 * 2 * 2) (by decide) (by decide)]
        rfl
      · rw [show L9.contains p = false by simpa using hm]
        exact beq_false_of_ne (by rintro rfl; exact hm (by decide))
  obtain ⟨y, h1, h2⟩ := key
  unfold p11
  rw [h1, Option.bind_some, h2]
  by_cases hm : p ∈ L9
  · rw [show L9.contains p = true by simpa using hm]
    by_cases h4 : 0 ≤ q <;> by_cases h5 : q < p <;> simp [Pos, hm, h4, h5]
  · rw [show L9.contains p = false by simpa using hm]
    simp [Pos, hm]
theorem pos1 {p q : Int} (h : Pos p q) : 1 ≤ p ∧ p ≤ 256 := by rcases l9 h.1 with h | h | h | h | h | h | h | h | h <;> omega
theorem p12_eq (p q t : Int) (ht : t ≤ 9223372036854775807) : p12 6000 p q t = some (decide (Pos p q ∧ 0 ≤ t ∧ t % p = q)) := by
  unfold p12
  rw [p23_eq p q, Option.bind_some]
  by_cases hP : Pos p q
  · have := pos1 hP
    by_cases h0 : 0 ≤ t
    · simp (disch := omega) only [hP, decide_true, dif_true_, h0, ge_iff_le, Option.bind_some, remS, true_and]
      congr 1
    · simp [hP, h0]
  · simp [hP]
def Fc (p q z : Int) : Int := (z - 1 - q) / p
theorem Fc_step {p q z : Int} (h : Pos p q) (hz : 0 ≤ z) : Fc p q (z + 1) = Fc p q z + (if z % p = q then 1 else 0) := by
  obtain ⟨hp, h1, h2⟩ := h
  unfold Fc
  rcases l9 hp with rfl | rfl | rfl | rfl | rfl | rfl | rfl | rfl | rfl <;> split <;> omega
theorem Fc_mono {p q a b : Int} (h : Pos p q) (hab : a ≤ b) : Fc p q a ≤ Fc p q b := by
  obtain ⟨hp, h1, h2⟩ := h
  unfold Fc
  rcases l9 hp with rfl | rfl | rfl | rfl | rfl | rfl | rfl | rfl | rfl <;> omega
theorem Fc_bound {p q a : Int} (h : Pos p q) (ha : 0 ≤ a) : -1 ≤ Fc p q a ∧ Fc p q a ≤ a := by
  obtain ⟨hp, h1, h2⟩ := h
  unfold Fc
  rcases l9 hp with rfl | rfl | rfl | rfl | rfl | rfl | rfl | rfl | rfl <;> omega
theorem Fc_period {p q a : Int} (h : Pos p q) : Fc p q (a + p) = Fc p q a + 1 := by
  obtain ⟨hp, h1, h2⟩ := h
  unfold Fc
  rcases l9 hp with rfl | rfl | rfl | rfl | rfl | rfl | rfl | rfl | rfl <;> omega
theorem Fc_count {p q a b : Int} (h : Pos p q) (ha : 0 ≤ a) (hab : a < b) : (b - a) / p + (if (q - a % p + p) % p < (b - a) % p then 1 else 0) = Fc p q b - Fc p q a := by
  obtain ⟨hp, h1, h2⟩ := h
  unfold Fc
  rcases l9 hp with rfl | rfl | rfl | rfl | rfl | rfl | rfl | rfl | rfl <;> split <;> omega
def mx (z : Int) : Int := if 0 > z then 0 else z
theorem mx0 (z : Int) : 0 ≤ mx z := by unfold mx; split <;> omega
theorem mx_of {z : Int} (h : 0 ≤ z) : mx z = z := by unfold mx; rw [if_neg (by omega)]
theorem mx_lt {z : Int} (h : z < 0) : mx z = 0 := by unfold mx; rw [if_pos (by omega)]
def Cn (p q a b : Int) : Int := if Pos p q ∧ mx a < b then Fc p q b - Fc p q (mx a) else 0
theorem p13_eq (p q a b : Int) (ha : a ≤ 9223372036854775807) (hb : b ≤ 9223372036854775807) : p13 6000 p q a b = some (Cn p q a b) := by
  unfold p13
  rw [p23_eq p q, Option.bind_some]
  by_cases hP : Pos p q
  · have h1 := pos1 hP
    by_cases hab : mx a < b
    · have h0 := mx0 a
      have hm : mx a ≤ 9223372036854775807 := by unfold mx; split <;> omega
      have e : (if 0 > a then 0 else a) = mx a := rfl
      have r1 := Int.emod_nonneg (mx a) (by omega : p ≠ 0)
      have r2 := Int.emod_lt_of_pos (mx a) (by omega : 0 < p)
      have q1 := hP.2.1
      have q2 := hP.2.2
      have d1 : 0 ≤ (b - mx a) / p := Int.ediv_nonneg (by omega) (by omega)
      have d2 : (b - mx a) / p ≤ b - mx a := Int.ediv_le_self p (by omega)
      rw [e]
      simp only [hP, decide_true, Bool.not_true, show (decide (b ≤ mx a)) = false by simp; omega, Option.bind_some, ifTrue_, Bool.false_eq_true, ifFalse_]
      rw [ck_i64 (by omega), Option.bind_some, remS (by omega) (by omega) (by omega), Option.bind_some, quoS (by omega) (by omega) (by omega), Option.bind_some, remS (by omega) (by omega) (by omega), Option.bind_some, ck_i64 (by omega), Option.bind_some, ck_i64 (by omega), Option.bind_some, remS (by omega) (by omega) (by omega), Option.bind_some]
      have hc := Fc_count hP h0 hab
      have hC : Cn p q a b = Fc p q b - Fc p q (mx a) := if_pos ⟨hP, hab⟩
      rw [hC, ← hc]
      by_cases hx : (q - mx a % p + p) % p < (b - mx a) % p
      · have d3 : (b - mx a) / p ≤ 9223372036854775806 := by
          by_cases hp1 : p = 1
          · subst hp1
            have := Int.emod_one (b - mx a)
            have := Int.emod_nonneg (q - mx a % 1 + 1) (by decide : (1 : Int) ≠ 0)
            omega
          · have : (b - mx a) / p * p ≤ b - mx a := Int.ediv_mul_le _ (by omega)
            have : (b - mx a) / p * 2 ≤ (b - mx a) / p * p := Int.mul_le_mul_of_nonneg_left (by omega) d1
            omega
        rw [if_pos (decide_eq_true hx), if_pos hx, ck_i64 (by omega), Option.bind_some, Option.bind_some]
      · rw [if_neg (by rw [decide_eq_true_eq]; exact hx), if_neg hx, Option.bind_some, Int.add_zero]
    · have e : (if 0 > a then 0 else a) = mx a := rfl
      rw [e]
      simp [hP, hab, Cn, show b ≤ mx a by omega]
  · simp [hP, Cn]
end Go.Proofs.Ytpllbhofpppfcaa
