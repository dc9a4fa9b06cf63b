/- Periods in plain words: the laws on single ticks and on counts. Plain theorems, no condition. -/
import Derived.Test.YtpllbhofpppfcaaPT2
import Derived.Test.YtpllbhofpppfcaaXE16
set_option linter.unusedVariables false
set_option linter.unusedSimpArgs false
namespace Go.Proofs.Ytpllbhofpppfcaa
open Go.RowKit

theorem Cn_eq {p q a b : Int} (h : Pos p q) (hab : a ≤ b) : Cn p q a b = Fc p q (mx b) - Fc p q (mx a) := by
  unfold Cn
  by_cases h1 : mx a < b
  · rw [if_pos ⟨h, h1⟩, mx_of (z := b) (by have := mx0 a; omega)]
  · rw [if_neg (fun k => h1 k.2)]
    have : mx b = mx a := by unfold mx at h1 ⊢; split at h1 <;> split <;> omega
    rw [this]; omega
theorem Cn_no {p q a b : Int} (h : b < a) : Cn p q a b = 0 := by
  unfold Cn
  exact if_neg fun k => by have := k.2; unfold mx at this; split at this <;> omega
theorem idx0 {α : Type} (x y : α) (l : List α) : idx (x :: l) 0 = some x := rfl
theorem p4_l1_ok {p q r t : Int} (h : Pos p q) (h0 : 0 ≤ t) (ht : t ≤ 4611686018427387904) : ∀ (m : Nat) (c k : Int), 0 ≤ c → c ≤ p → p < c + m → 0 ≤ k → k ≤ c → p4_l1 6000 p [q, r] t m c k = some (.inl (k + Fc p q (t + p) - Fc p q (t + c)))
  | 0, c, k, _, _, _, _, _ => by omega
  | m + 1, c, k, h1, h2, h3, h4, h5 => by
    have hp := pos1 h
    have hq := h.2
    unfold p4_l1
    by_cases hc : c < p
    · have hm0 := Int.emod_nonneg (t + c) (by omega : p ≠ 0)
      rw [if_pos (decide_eq_true hc), show idx [q, r] 0 = some q from rfl, Option.bind_some, ck_i64 (by omega), Option.bind_some, p12_eq _ _ _ (by omega), Option.bind_some, show idx [q, r] 1 = some r from rfl, Option.bind_some, Option.bind_some, p12_eq _ _ _ (by omega), Option.bind_some, Option.bind_some,
        remS (by omega) (by omega) (by omega), Option.bind_some, Option.bind_some]
      have e1 : decide (Pos p q ∧ 0 ≤ t + c ∧ (t + c) % p = q) = decide ((t + c) % p = q) := by
        simp only [h, show 0 ≤ t + c by omega, true_and]
      have e2 : ((t + c) % p == q) = decide ((t + c) % p = q) := rfl
      rw [e1, e2, if_pos (by simp)]
      have st := Fc_step h (show 0 ≤ t + c by omega)
      rw [Int.add_assoc] at st
      by_cases hd : (t + c) % p = q
      · rw [if_pos hd] at st
        rw [if_pos (decide_eq_true hd), Option.bind_some]
        have e3 : (decide (Pos p r ∧ 0 ≤ t + c ∧ (t + c) % p = r) = true) → q = r := fun hh => by have := of_decide_eq_true hh; omega
        by_cases hr : decide (Pos p r ∧ 0 ≤ t + c ∧ (t + c) % p = r) = true
        · obtain rfl := e3 hr
          rw [if_pos hr, Option.bind_some, Option.bind_some, show (q != q) = false by simp, Option.bind_some, Option.bind_some, if_neg (by decide), if_pos (decide_eq_true hd), ck_i64 (by omega), Option.bind_some, Option.bind_some, ck_i64 (by omega), Option.bind_some,
            p4_l1_ok h h0 ht m (c + 1) (k + 1) (by omega) (by omega) (by omega) (by omega) (by omega)]
          congr 2; omega
        · rw [if_neg hr, Option.bind_some, Option.bind_some, if_neg (by decide), if_pos (decide_eq_true hd), ck_i64 (by omega), Option.bind_some, Option.bind_some, ck_i64 (by omega), Option.bind_some,
            p4_l1_ok h h0 ht m (c + 1) (k + 1) (by omega) (by omega) (by omega) (by omega) (by omega)]
          congr 2; omega
      · rw [if_neg hd] at st
        have hd' : ¬ decide ((t + c) % p = q) = true := fun k_ => hd (of_decide_eq_true k_)
        rw [if_neg hd', Option.bind_some, if_neg (by decide), Option.bind_some, Option.bind_some, if_neg (by decide), if_neg hd', Option.bind_some, ck_i64 (by omega), Option.bind_some,
          p4_l1_ok h h0 ht m (c + 1) k (by omega) (by omega) (by omega) (by omega) (by omega)]
        congr 2; omega
    · rw [if_neg (by rw [decide_eq_true_eq]; exact hc)]
      have : c = p := by omega
      subst this
      congr 2; omega
theorem p4_ok {p q r t : Int} (ht0 : -9223372036854775808 ≤ t) : p4 6000 p [q, r] t = some true := by
  unfold p4
  by_cases ht : t > 4611686018427387904
  · rw [if_pos (decide_eq_true ht)]
  · rw [if_neg (by rw [decide_eq_true_eq]; exact ht), show idx [q, r] 0 = some q from rfl, Option.bind_some, p11_eq, Option.bind_some]
    by_cases hP : Pos p q
    · rw [decide_eq_true hP, if_neg (by decide)]
      by_cases h0 : t < 0
      · rw [if_pos (decide_eq_true h0), Option.bind_some, p12_eq _ _ _ (by omega), Option.bind_some, decide_eq_false (fun k => by omega), ifNot, p10_ok]; rfl
      · have hp := pos1 hP
        rw [if_neg (by rw [decide_eq_true_eq]; exact h0), p4_l1_ok hP (by omega) (by omega) 6000 0 0 (by omega) (by omega) (by omega) (by omega) (by omega), Option.bind_some]
        show Option.bind _ _ = _
        have e := Fc_period (a := t) hP
        rw [show (0 + Fc p q (t + p) - Fc p q (t + 0)) = 1 by rw [Int.add_zero]; omega, ifEq, Option.bind_some, ck_i64 (by omega), Option.bind_some, p13_eq _ _ _ _ (by omega) (by omega), Option.bind_some, Cn_eq hP (by omega), mx_of (by omega), mx_of (by omega),
          show (Fc p q (t + p) - Fc p q t) = 1 by omega, Option.bind_some, ifEq, p10_ok]; rfl
    · rw [decide_eq_false hP, ifNot, Option.bind_some, p12_eq _ _ _ (by omega), Option.bind_some, decide_eq_false (fun k => hP k.1), ifNot, Option.bind_some, ck_i64 (by omega), Option.bind_some, p13_eq _ _ _ _ (by omega) (by omega), Option.bind_some,
        show Cn p q t (t + 1000) = 0 from if_neg fun k => hP k.1, Option.bind_some, ifEq, p10_ok]; rfl
set_option maxRecDepth 4000 in
theorem p14_l1_ok {p q b : Int} (h : Pos p q) (hb : b ≤ 4611686018427387904) : ∀ (m : Nat) (c k : Int), -4611686018427387904 ≤ c → c ≤ b → b < c + m → 0 ≤ k → k + m ≤ 1000000 → p14_l1 6000 p q b m c k = some (k + Fc p q (mx b) - Fc p q (mx c))
  | 0, c, k, _, h1, h2, _, _ => absurd h2 (by omega)
  | m + 1, c, k, h1, h2, h3, h4, h5 => by
    have hp := pos1 h
    unfold p14_l1
    by_cases hc : c < b
    · rw [if_pos (decide_eq_true hc)]
      by_cases h0 : 0 ≤ c
      · have st := Fc_step h h0
        rw [if_pos (decide_eq_true h0), remS (by omega) (by omega) (by omega), Option.bind_some, Option.bind_some]
        by_cases hd : c % p = q
        · rw [if_pos hd] at st
          rw [if_pos (by simpa using hd), ck_i64 (by omega), Option.bind_some, Option.bind_some, ck_i64 (by omega), Option.bind_some, p14_l1_ok h hb m (c + 1) (k + 1) (by omega) (by omega) (by omega) (by omega) (by omega), mx_of h0, mx_of (z := c + 1) (by omega)]
          congr 1; omega
        · rw [if_neg hd] at st
          rw [if_neg (by simpa using hd), Option.bind_some, ck_i64 (by omega), Option.bind_some, p14_l1_ok h hb m (c + 1) k (by omega) (by omega) (by omega) (by omega) (by omega), mx_of h0, mx_of (z := c + 1) (by omega)]
          congr 1; omega
      · rw [if_neg (by rw [decide_eq_true_eq]; exact h0), Option.bind_some, if_neg (by decide), Option.bind_some, ck_i64 (by omega), Option.bind_some, p14_l1_ok h hb m (c + 1) k (by omega) (by omega) (by omega) (by omega) (by omega),
          show mx (c + 1) = mx c by unfold mx; split <;> split <;> omega]
    · rw [if_neg (by rw [decide_eq_true_eq]; exact hc), show c = b by omega]
      congr 1; omega
theorem p14_eq (p q a b : Int) (ha : -4611686018427387904 ≤ a) (hb : b ≤ 4611686018427387904) (hl : b ≤ a + 5000) : p14 6000 p q a b = some (Cn p q a b) := by
  unfold p14
  rw [p11_eq, Option.bind_some]
  by_cases hP : Pos p q
  · rw [decide_eq_true hP, if_neg (by decide)]
    by_cases hab : a ≤ b
    · rw [p14_l1_ok hP hb 6000 a 0 (by omega) (by omega) (by omega) (by omega) (by omega), Option.bind_some, Cn_eq hP hab]
      congr 1; omega
    · rw [Cn_no (by omega)]
      unfold p14_l1
      rw [if_neg (by rw [decide_eq_true_eq]; omega)]
      rfl
  · rw [decide_eq_false hP, ifNot, show Cn p q a b = 0 from if_neg fun k => hP k.1]
theorem Cn_bound {p q a b : Int} : 0 ≤ Cn p q a b ∧ (0 ≤ b → Cn p q a b ≤ b + 1) := by
  unfold Cn
  split
  · rename_i h
    have m0 := mx0 a
    have h1 := Fc_mono h.1 (show mx a ≤ b by omega)
    have h2 := Fc_bound h.1 m0
    have h3 := Fc_bound h.1 (show 0 ≤ b by omega)
    omega
  · omega
theorem Cn_big {p q a b : Int} (hb : b ≤ 10000000000000) : Cn p q a b ≤ 10000000000001 := by
  unfold Cn
  split
  · rename_i h
    have m0 := mx0 a
    have h2 := Fc_bound h.1 m0
    have h3 := Fc_bound h.1 (show 0 ≤ b by omega)
    omega
  · omega
theorem p5_ok {p q a s l : Int} (hs : InR .i64 s) : p5 6000 p q [a, s, l] = some true := by
  have hr : ∃ r, remI .i64 s 2000 = some r ∧ -2000 < r ∧ r < 2000 := by
    refine ⟨s.tmod 2000, ?_, ?_, ?_⟩
    · unfold remI
      rw [if_neg (by decide)]
      have h1 := Int.tmod_lt_of_pos s (show (0 : Int) < 2000 by decide)
      have h2 := Int.lt_tmod_of_pos s (show (0 : Int) < 2000 by decide)
      exact ck_i64 (by omega)
    · have := Int.lt_tmod_of_pos s (show (0 : Int) < 2000 by decide); omega
    · exact Int.tmod_lt_of_pos s (by decide)
  obtain ⟨r, hr, r1, r2⟩ := hr
  unfold p5
  rw [show idx [a, s, l] 0 = some a from rfl, Option.bind_some, show idx [a, s, l] 1 = some s from rfl, Option.bind_some, hr, Option.bind_some, show idx [a, s, l] 2 = some l from rfl, Option.bind_some]
  rw [orK (c := decide (a > 1099511627776)) (fun _ => rfl), Option.bind_some, orK (c := decide (l < -1099511627776)) (fun _ => rfl), Option.bind_some, orK (c := decide (l > 1099511627776)) (fun _ => rfl), Option.bind_some]
  by_cases hb : (decide (a < -1099511627776) || decide (a > 1099511627776) || decide (l < -1099511627776) || decide (l > 1099511627776)) = true
  · rw [if_pos hb]
  · rw [if_neg hb]
    simp only [Bool.or_eq_true, decide_eq_true_eq, not_or] at hb
    obtain ⟨⟨⟨b1, b2⟩, b3⟩, b4⟩ := hb
    have hcb := Cn_bound (p := p) (q := q) (a := a) (b := a + r)
    rw [ck_i64 (by omega), Option.bind_some, p13_eq _ _ _ _ (by omega) (by omega), Option.bind_some, Option.bind_some, p14_eq _ _ _ _ (by omega) (by omega) (by omega), Option.bind_some, show (Cn p q a (a + r) != Cn p q a (a + r)) = false by simp, if_pos rfl, Option.bind_some, if_neg (by rw [decide_eq_true_eq]; omega),
      orK (c := decide (l < 0)) (fun _ => rfl), Option.bind_some]
    by_cases hn : (decide (r < 0) || decide (l < 0)) = true
    · rw [if_pos hn, ck_i64 (by omega), Option.bind_some, p13_eq _ _ _ _ (by omega) (by omega), Option.bind_some, Cn_no (by omega), ifEq, p10_ok]; rfl
    · rw [if_neg hn]
      simp only [Bool.or_eq_true, decide_eq_true_eq, not_or] at hn
      have c1 := Cn_bound (p := p) (q := q) (a := a + r) (b := a + r + l)
      have c2 := Cn_big (p := p) (q := q) (a := a + r) (b := a + r + l) (by omega)
      have c3 := Cn_big (p := p) (q := q) (a := a) (b := a + r) (by omega)
      rw [Option.bind_some, ck_i64 (by omega), Option.bind_some, p13_eq _ _ _ _ (by omega) (by omega), Option.bind_some, Option.bind_some, Option.bind_some, ck_i64 (by omega), Option.bind_some, p13_eq _ _ _ _ (by omega) (by omega), Option.bind_some, ck_i64 (by omega), Option.bind_some]
      have : Cn p q a (a + r + l) = Cn p q a (a + r) + Cn p q (a + r) (a + r + l) := by
        by_cases hP : Pos p q
        · rw [Cn_eq hP (by omega), Cn_eq hP (by omega), Cn_eq hP (by omega)]; omega
        · rw [show ∀ x y, Cn p q x y = 0 from fun x y => if_neg fun k => hP k.1]; simp [show ∀ x y, Cn p q x y = 0 from fun x y => if_neg fun k => hP k.1]
      rw [this, if_pos (by simp), p10_ok]; rfl
theorem arr2 {x : List Int} (h : Fine (.arr 2 (.int .i64)) x) : ∃ a b, x = [a, b] ∧ InR .i64 a ∧ InR .i64 b := by
  obtain ⟨h1, h2⟩ := h
  match x, h1, h2 with
  | [a, b], _, h2 => exact ⟨a, b, rfl, h2 a (by simp), h2 b (by simp)⟩
theorem arr3 {x : List Int} (h : Fine (.arr 3 (.int .i64)) x) : ∃ a b c, x = [a, b, c] ∧ InR .i64 a ∧ InR .i64 b ∧ InR .i64 c := by
  obtain ⟨h1, h2⟩ := h
  match x, h1, h2 with
  | [a, b, c], _, h2 => exact ⟨a, b, c, rfl, h2 a (by simp), h2 b (by simp), h2 c (by simp)⟩
theorem p3_law {x0 x1 : Int} {x2 : List Int} (h0 : InR .u8 x0) (h1 : InR .u8 x1) (h2 : Fine (.arr 2 (.int .i64)) x2) : p3 6000 x0 x1 x2 = some true := by
  obtain ⟨a, b, rfl, _, _⟩ := arr2 h2
  exact p3_ok (inR_u8.1 h0).1 (inR_u8.1 h1).1
theorem p4_law {x0 : Int} {x1 : List Int} {x2 : Int} (h0 : InR .i64 x0) (h1 : Fine (.arr 2 (.int .i64)) x1) (h2 : InR .i64 x2) : p4 6000 x0 x1 x2 = some true := by
  obtain ⟨a, b, rfl, _, _⟩ := arr2 h1
  exact p4_ok (inR_i64.1 h2).1
theorem p5_law {x0 x1 : Int} {x2 : List Int} (h0 : InR .i64 x0) (h1 : InR .i64 x1) (h2 : Fine (.arr 3 (.int .i64)) x2) : p5 6000 x0 x1 x2 = some true := by
  obtain ⟨a, b, c, rfl, _, hb, _⟩ := arr3 h2
  exact p5_ok hb
end Go.Proofs.Ytpllbhofpppfcaa
