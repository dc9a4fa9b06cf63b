/- Networks: reading any bytes, in plain words. Plain theorems, no condition. -/
import Derived.Test.YtlgalcekkffhnaaPN3
set_option linter.unusedVariables false
set_option linter.unusedSimpArgs false
namespace Go.Proofs.Ytlgalcekkffhnaa
open Go.RowKit

theorem lrKlD {α β γ : Type} (a : α) (g : β → Option γ) (f : α → Option γ) : lrK (.inl a) g f = f a := rfl
def byteL (xs : List Int) : Prop := ∀ y ∈ xs, 0 ≤ y ∧ y ≤ 255
def rd (xs : List Int) (i : Nat) : Int := xs.getD i 0 + 256 * xs.getD (i + 1) 0
theorem getD_byte {xs : List Int} (h : byteL xs) (i : Nat) : 0 ≤ xs.getD i 0 ∧ xs.getD i 0 ≤ 255 := by
  rw [List.getD_eq_getElem?_getD]
  cases e : xs[i]? with
  | none => simp
  | some y => exact h y (List.mem_of_getElem? e)
theorem rd_range {xs : List Int} (h : byteL xs) (i : Nat) : 0 ≤ rd xs i ∧ rd xs i ≤ 65535 := by
  have h1 := getD_byte h i
  have h2 := getD_byte h (i + 1)
  unfold rd
  omega
theorem getD_some {xs : List Int} {i : Nat} (h : i < xs.length) : xs[i]? = some (xs.getD i 0) := by
  rw [List.getD_eq_getElem?_getD, List.getElem?_eq_getElem h]; rfl
theorem p25_rd {n i : Nat} {xs : List Int} {c : Option Nat} (h : byteL xs) (hi : i + 1 < xs.length) (hL : xs.length ≤ 20000) : p25 n i ⟨xs, c⟩ = some (rd xs i) :=
  p25_eq n i _ (getD_some (show i < xs.length by omega)) (getD_some hi) (by omega) (getD_byte h i) (getD_byte h (i + 1))
theorem p14_rd {n i : Nat} {xs : List Int} {c : Option Nat} (h : byteL xs) (hi : i + 1 < xs.length) (hL : xs.length ≤ 20000) : p14 n ⟨xs, c⟩ i = some (rd xs i) :=
  p14_eq n i _ (getD_some (show i < xs.length by omega)) (getD_some hi) (by omega) (getD_byte h i) (getD_byte h (i + 1))
/-- The bytes of a part. -/
def part (xs : List Int) (i k : Nat) : List Int := (xs.drop i).take k
theorem slI_part {xs : List Int} {c : Option Nat} {i k : Nat} (h : i + k ≤ xs.length) : slI (⟨xs, c⟩ : Sl Int) (i : Int) ((i + k : Nat) : Int) = some ⟨part xs i k, c.map (· - i)⟩ := by
  unfold slI
  rw [if_pos (show (0 : Int) ≤ (i : Int) ∧ (i : Int) ≤ ((i + k : Nat) : Int) ∧ ((i + k : Nat) : Int) ≤ (xs.length : Int) from ⟨by omega, by omega, by omega⟩)]
  simp [part, List.take_drop, show ((i : Int) + (k : Int)).toNat = i + k by omega]
structure Head (xs : List Int) (t : Nat) : Prop where
  magic : part xs 0 4 = [78, 67, 77, 72]
  size : rd xs 4 = 12
  all_ : rd xs 8 = xs.length
  t12 : 12 ≤ t
  t4 : t % 4 = 0
  fit : t + 12 ≤ xs.length
structure Tab (xs : List Int) (t k : Nat) : Prop where
  magic : part xs t 4 = [78, 67, 77, 48]
  k12 : 12 ≤ k
  k4 : k % 4 = 0
  fit : t + k ≤ xs.length
  z : rd xs (t + 6) = 0
  z1 : rd xs (t + k - 4) = 0
  z2 : rd xs (t + k - 2) = 0
def err12 : (Int × Sl (Sl Int)) × Int := ((0, ⟨[], some 0⟩), 4)
theorem p12_head {n : Nat} {xs : List Int} {c : Option Nat} (hb : byteL xs) {t : Nat} (ht : rd xs 10 = t) : (¬ (12 ≤ xs.length ∧ xs.length ≤ 16384 ∧ Head xs t) ∧ p12 n ⟨xs, c⟩ = some err12) ∨ (12 ≤ xs.length ∧ xs.length ≤ 16384 ∧ Head xs t) := by
  by_cases h0 : 12 ≤ xs.length ∧ xs.length ≤ 16384
  · by_cases hH : Head xs t
    · exact .inr ⟨h0.1, h0.2, hH⟩
    · refine .inl ⟨fun h => hH h.2.2, ?_⟩
      have r4 := rd_range hb 4
      have r8 := rd_range hb 8
      have r10 := rd_range hb 10
      rw [ht] at r10
      unfold p12
      rw [len_eq, orS, Option.bind_some, decide_eq_false (show ¬ ((xs.length : Int) < 12) by omega), decide_eq_false (show ¬ ((xs.length : Int) > 16384) by omega)]
      rw [Bool.or_false, if_neg (by decide), show p25 n 10 ⟨xs, c⟩ = some (t : Int) from (p25_rd (i := 10) hb (by omega) (by omega)).trans (by rw [ht]), Option.bind_some, show slI (⟨xs, c⟩ : Sl Int) 0 4 = _ from slI_part (i := 0) (k := 4) (by omega), Option.bind_some]
      rw [show p25 n 4 ⟨xs, c⟩ = _ from p25_rd (i := 4) hb (by omega) (by omega), Option.bind_some, orS, Option.bind_some, show p25 n 8 ⟨xs, c⟩ = _ from p25_rd (i := 8) hb (by omega) (by omega), Option.bind_some, orS, Option.bind_some, orS, Option.bind_some, remI_ok (by omega) (by decide) (by rw [inR_i64]; omega), Option.bind_some, orS, Option.bind_some, ck_i64 (by omega), Option.bind_some, orS, Option.bind_some]
      rw [if_pos]
      · rfl
      · cases hq : (!decide (part xs 0 4 = [78, 67, 77, 72]) || rd xs 4 != 12 || rd xs 8 != (xs.length : Int) || decide ((t : Int) < 12) || (t : Int) % 4 != 0 || decide ((t : Int) + 12 > (xs.length : Int))) with
        | true => rfl
        | false =>
          simp only [Bool.or_eq_false_iff, Bool.not_eq_false', decide_eq_true_eq, decide_eq_false_iff_not, bne_eq_false_iff_eq] at hq
          obtain ⟨⟨⟨⟨⟨q1, q2⟩, q3⟩, q4⟩, q5⟩, q6⟩ := hq
          exact absurd ⟨q1, q2, q3, by omega, by omega, by omega⟩ hH
  · refine .inl ⟨fun h => h0 ⟨h.1, h.2.1⟩, ?_⟩
    unfold p12
    rw [len_eq, orS, Option.bind_some, if_pos]
    · rfl
    · rw [Bool.or_eq_true, decide_eq_true_eq, decide_eq_true_eq]; omega
theorem slI_at {xs : List Int} {c : Option Nat} {i : Nat} {j : Int} (k : Nat) (hj : j = (i : Int) + k) (h : i + k ≤ xs.length) : slI (⟨xs, c⟩ : Sl Int) (i : Int) j = some ⟨part xs i k, c.map (· - i)⟩ := by
  subst hj
  exact slI_part (by omega)
theorem p12_tab {n : Nat} {xs : List Int} {c : Option Nat} (hb : byteL xs) {t k : Nat} (ht : rd xs 10 = t) (h1 : 12 ≤ xs.length) (h2 : xs.length ≤ 16384) (hH : Head xs t) (hk : rd xs (t + 4) = k) :
    (¬ Tab xs t k ∧ p12 n ⟨xs, c⟩ = some err12) ∨ (Tab xs t k ∧ p12 n ⟨xs, c⟩ = (p12_l1 n ⟨xs, c⟩ t k n ((t + 8 : Nat) : Int) []).bind fun y_427 => lrK y_427 some fun (s_428 : List (Sl Int)) => if (decide ((lenI (⟨s_428, .none⟩ : Sl (Sl (Int)))) > 64)) then (some ((0, (⟨[], some 0⟩ : Sl (Sl (Int)))), 3)) else (p27 n (⟨s_428, .none⟩ : Sl (Sl (Int)))).bind fun t_569 => some ((rd xs 6, t_569), 0)) := by
  obtain ⟨m1, m2, m3, m4, m5, m6⟩ := hH
  have r6 := rd_range hb 6
  have rk := rd_range hb (t + 4)
  rw [hk] at rk
  have rz := rd_range hb (t + 6)
  unfold p12
  rw [len_eq, orS, Option.bind_some, decide_eq_false (show ¬ ((xs.length : Int) < 12) by omega), decide_eq_false (show ¬ ((xs.length : Int) > 16384) by omega)]
  rw [Bool.or_false, if_neg (by decide), show p25 n 10 ⟨xs, c⟩ = some (t : Int) from (p25_rd (i := 10) hb (by omega) (by omega)).trans (by rw [ht]), Option.bind_some, show slI (⟨xs, c⟩ : Sl Int) 0 4 = _ from slI_part (i := 0) (k := 4) (by omega), Option.bind_some]
  rw [show p25 n 4 ⟨xs, c⟩ = _ from p25_rd (i := 4) hb (by omega) (by omega), Option.bind_some, orS, Option.bind_some, show p25 n 8 ⟨xs, c⟩ = _ from p25_rd (i := 8) hb (by omega) (by omega), Option.bind_some, orS, Option.bind_some, orS, Option.bind_some, remI_ok (by omega) (by decide) (by rw [inR_i64]; omega), Option.bind_some, orS, Option.bind_some, ck_i64 (by omega), Option.bind_some, orS, Option.bind_some]
  rw [show (!decide (part xs 0 4 = [78, 67, 77, 72]) || rd xs 4 != 12 || rd xs 8 != (xs.length : Int) || decide ((t : Int) < 12) || (t : Int) % 4 != 0 || decide ((t : Int) + 12 > (xs.length : Int))) = false by
    simp only [Bool.or_eq_false_iff, Bool.not_eq_false', decide_eq_true_eq, decide_eq_false_iff_not, bne_eq_false_iff_eq]
    exact ⟨⟨⟨⟨⟨m1, m2⟩, m3⟩, by omega⟩, by omega⟩, by omega⟩]
  rw [if_neg (by decide), ck_i64 (by omega), Option.bind_some, show (t : Int) + 4 = ((t + 4 : Nat) : Int) by omega, p25_rd hb (by omega) (by omega), Option.bind_some, hk, Option.bind_some, slI_at 4 (by omega) (by omega), Option.bind_some, orS, Option.bind_some, remI_ok (by omega) (by decide) (by rw [inR_i64]; omega), Option.bind_some, orS, Option.bind_some, ck_i64 (by omega), Option.bind_some, orS, Option.bind_some, ck_i64 (by omega), Option.bind_some, show (t : Int) + 6 = ((t + 6 : Nat) : Int) by omega, p25_rd hb (by omega) (by omega), Option.bind_some, orS, Option.bind_some]
  cases hQ : (!decide (part xs t 4 = [78, 67, 77, 48]) || decide ((k : Int) < 12) || (k : Int) % 4 != 0 || decide ((t : Int) + (k : Int) > (xs.length : Int)) || rd xs (t + 6) != 0) with
  | true =>
    refine .inl ⟨fun T => ?_, rfl⟩
    have := T.k12; have := T.k4; have := T.fit
    have : (!decide (part xs t 4 = [78, 67, 77, 48]) || decide ((k : Int) < 12) || (k : Int) % 4 != 0 || decide ((t : Int) + (k : Int) > (xs.length : Int)) || rd xs (t + 6) != 0) = false := by
      simp only [Bool.or_eq_false_iff, Bool.not_eq_false', decide_eq_true_eq, decide_eq_false_iff_not, bne_eq_false_iff_eq]
      exact ⟨⟨⟨⟨T.magic, by omega⟩, by omega⟩, by omega⟩, T.z⟩
    rw [hQ] at this
    cases this
  | false =>
    simp only [Bool.or_eq_false_iff, Bool.not_eq_false', decide_eq_true_eq, decide_eq_false_iff_not, bne_eq_false_iff_eq] at hQ
    obtain ⟨⟨⟨⟨q1, q2⟩, q3⟩, q4⟩, q5⟩ := hQ
    rw [if_pos rfl, Option.bind_some, ck_i64 (by omega), Option.bind_some, show (t : Int) + (k : Int) - 4 = ((t + k - 4 : Nat) : Int) by omega, p25_rd hb (by omega) (by omega), Option.bind_some, Option.bind_some, Option.bind_some, show (t : Int) + (k : Int) - 2 = ((t + k - 2 : Nat) : Int) by omega, show ckI .i64 ((t + k - 2 : Nat) : Int) = some ((t + k - 2 : Nat) : Int) from ck_i64 (by omega), Option.bind_some, p25_rd hb (by omega) (by omega), Option.bind_some, orS, Option.bind_some]
    cases hZ : (rd xs (t + k - 4) != 0 || rd xs (t + k - 2) != 0) with
    | true =>
      refine .inl ⟨fun T => ?_, rfl⟩
      rw [T.z1, T.z2] at hZ
      cases hZ
    | false =>
      simp only [Bool.or_eq_false_iff, bne_eq_false_iff_eq] at hZ
      refine .inr ⟨⟨q1, by omega, by omega, by omega, q5, hZ.1, hZ.2⟩, ?_⟩
      rw [if_neg (by decide), show p25 n 6 ⟨xs, c⟩ = _ from p25_rd (i := 6) hb (by omega) (by omega), Option.bind_some, ck_i64 (by omega), Option.bind_some, show IntKind.wrap .u16 (rd xs 6) = rd xs 6 by rw [wrap_u16]; omega]
      rfl
theorem part4 {xs : List Int} {i : Nat} (h : i + 4 ≤ xs.length) : part xs i 4 = [xs.getD i 0, xs.getD (i + 1) 0, xs.getD (i + 2) 0, xs.getD (i + 3) 0] := by
  have g : ∀ j (hj : j < xs.length), xs.getD j 0 = xs[j] := fun j hj => by rw [List.getD_eq_getElem?_getD, List.getElem?_eq_getElem hj]; rfl
  unfold part
  rw [g i (by omega), g (i + 1) (by omega), g (i + 2) (by omega), g (i + 3) (by omega)]
  rw [List.drop_eq_getElem_cons (show i < xs.length by omega), List.drop_eq_getElem_cons (show i + 1 < xs.length by omega), List.drop_eq_getElem_cons (show i + 1 + 1 < xs.length by omega), List.drop_eq_getElem_cons (show i + 1 + 1 + 1 < xs.length by omega)]
  rfl
theorem part4_zero {xs : List Int} (hb : byteL xs) {i : Nat} (h : i + 4 ≤ xs.length) : part xs i 4 = [0, 0, 0, 0] ↔ rd xs i = 0 ∧ rd xs (i + 2) = 0 := by
  have h0 := getD_byte hb i
  have h1 := getD_byte hb (i + 1)
  have h2 := getD_byte hb (i + 2)
  have h3 := getD_byte hb (i + 3)
  rw [part4 h]
  unfold rd
  rw [show i + 2 + 1 = i + 3 from rfl]
  constructor
  · intro e
    injection e with e0 e; injection e with e1 e; injection e with e2 e; injection e with e3 e
    omega
  · intro ⟨e1, e2⟩
    rw [show xs.getD i 0 = 0 by omega, show xs.getD (i + 1) 0 = 0 by omega, show xs.getD (i + 2) 0 = 0 by omega, show xs.getD (i + 3) 0 = 0 by omega]
def err15 : Sl (Sl Int) × Int := (⟨[], some 0⟩, 4)
theorem p15_dec {n : Nat} {xs : List Int} {c : Option Nat} (hb : byteL xs) {t k : Nat} (ht : rd xs 10 = t) (hk : rd xs (t + 4) = k) :
    (¬ (12 ≤ xs.length ∧ xs.length ≤ 16384 ∧ Head xs t ∧ Tab xs t k) ∧ p15 n ⟨xs, c⟩ = some err15) ∨ ((12 ≤ xs.length ∧ xs.length ≤ 16384 ∧ Head xs t ∧ Tab xs t k) ∧ p15 n ⟨xs, c⟩ = (p15_l1 n ⟨xs, c⟩ t k n ((8 : Nat) : Int) []).bind fun y_77 => lrK y_77 some fun (s_78 : List (Sl Int)) => if (decide ((lenI (⟨s_78, .none⟩ : Sl (Sl (Int)))) > 64)) then (some ((⟨([] : List (Sl (Int))), some 0⟩ : Sl (Sl (Int))), 3)) else some ((⟨s_78, .none⟩ : Sl (Sl (Int))), 0)) := by
  have r10 := rd_range hb 10
  rw [ht] at r10
  have rk := rd_range hb (t + 4)
  rw [hk] at rk
  by_cases h0 : 12 ≤ xs.length ∧ xs.length ≤ 16384
  · unfold p15
    rw [len_eq, orS, Option.bind_some, decide_eq_false (show ¬ ((xs.length : Int) < 12) by omega), decide_eq_false (show ¬ ((xs.length : Int) > 16384) by omega)]
    rw [Bool.or_false, if_pos rfl, show slI (⟨xs, c⟩ : Sl Int) 0 4 = _ from slI_part (i := 0) (k := 4) (by omega), Option.bind_some, Option.bind_some, show p14 n ⟨xs, c⟩ 4 = _ from p14_rd (i := 4) hb (by omega) (by omega), Option.bind_some, orS, Option.bind_some, show p14 n ⟨xs, c⟩ 8 = _ from p14_rd (i := 8) hb (by omega) (by omega), Option.bind_some, orS, Option.bind_some]
    cases hG : (!decide (part xs 0 4 = [78, 67, 77, 72]) || rd xs 4 != 12 || rd xs 8 != (xs.length : Int)) with
    | true =>
      refine .inl ⟨fun T => ?_, rfl⟩
      obtain ⟨_, _, H, _⟩ := T
      rw [decide_eq_true H.magic, H.size, H.all_] at hG
      simp at hG
    | false =>
      simp only [Bool.or_eq_false_iff, Bool.not_eq_false', decide_eq_true_eq, bne_eq_false_iff_eq] at hG
      obtain ⟨⟨g1, g2⟩, g3⟩ := hG
      rw [if_neg (by decide), show p14 n ⟨xs, c⟩ 10 = some (t : Int) from (p14_rd (i := 10) hb (by omega) (by omega)).trans (by rw [ht]), Option.bind_some, remI_ok (by omega) (by decide) (by rw [inR_i64]; omega), Option.bind_some, orS, Option.bind_some, ck_i64 (show -9223372036854775808 ≤ (t : Int) + 12 ∧ (t : Int) + 12 ≤ 9223372036854775807 by omega), Option.bind_some, orS, Option.bind_some]
      cases hA : (decide ((t : Int) < 12) || (t : Int) % 4 != 0 || decide ((t : Int) + 12 > (xs.length : Int))) with
      | true =>
        refine .inl ⟨fun T => ?_, rfl⟩
        obtain ⟨_, _, H, _⟩ := T
        have := H.t12; have := H.t4; have := H.fit
        have : (decide ((t : Int) < 12) || (t : Int) % 4 != 0 || decide ((t : Int) + 12 > (xs.length : Int))) = false := by
          simp only [Bool.or_eq_false_iff, decide_eq_false_iff_not, bne_eq_false_iff_eq]
          exact ⟨⟨by omega, by omega⟩, by omega⟩
        rw [hA] at this
        cases this
      | false =>
        simp only [Bool.or_eq_false_iff, decide_eq_false_iff_not, bne_eq_false_iff_eq] at hA
        obtain ⟨⟨a1, a2⟩, a3⟩ := hA
        have hH : Head xs t := ⟨g1, g2, g3, by omega, by omega, by omega⟩
        rw [if_pos rfl, ck_i64 (show -9223372036854775808 ≤ (t : Int) + 4 ∧ (t : Int) + 4 ≤ 9223372036854775807 by omega), Option.bind_some, slI_at 4 (by omega) (by omega), Option.bind_some, Option.bind_some, ck_i64 (show -9223372036854775808 ≤ (t : Int) + 6 ∧ (t : Int) + 6 ≤ 9223372036854775807 by omega), Option.bind_some, show (t : Int) + 6 = ((t + 6 : Nat) : Int) by omega, p14_rd hb (by omega) (by omega), Option.bind_some, orS, Option.bind_some]
        cases hB : (!decide (part xs t 4 = [78, 67, 77, 48]) || rd xs (t + 6) != 0) with
        | true =>
          refine .inl ⟨fun T => ?_, rfl⟩
          obtain ⟨_, _, _, T⟩ := T
          rw [decide_eq_true T.magic, T.z] at hB
          simp at hB
        | false =>
          simp only [Bool.or_eq_false_iff, Bool.not_eq_false', decide_eq_true_eq, bne_eq_false_iff_eq] at hB
          obtain ⟨b1, b2⟩ := hB
          rw [if_neg (by decide), Option.bind_some, show (t : Int) + 4 = ((t + 4 : Nat) : Int) by omega, p14_rd hb (by omega) (by omega), Option.bind_some, hk, remI_ok (by omega) (by decide) (by rw [inR_i64]; omega), Option.bind_some, orS, Option.bind_some, ck_i64 (show -9223372036854775808 ≤ (t : Int) + (k : Int) ∧ (t : Int) + (k : Int) ≤ 9223372036854775807 by omega), Option.bind_some, orS, Option.bind_some]
          cases hC : (decide ((k : Int) < 12) || (k : Int) % 4 != 0 || decide ((t : Int) + (k : Int) > (xs.length : Int))) with
          | true =>
            refine .inl ⟨fun T => ?_, rfl⟩
            obtain ⟨_, _, _, T⟩ := T
            have := T.k12; have := T.k4; have := T.fit
            have : (decide ((k : Int) < 12) || (k : Int) % 4 != 0 || decide ((t : Int) + (k : Int) > (xs.length : Int))) = false := by
              simp only [Bool.or_eq_false_iff, decide_eq_false_iff_not, bne_eq_false_iff_eq]
              exact ⟨⟨by omega, by omega⟩, by omega⟩
            rw [hC] at this
            cases this
          | false =>
            simp only [Bool.or_eq_false_iff, decide_eq_false_iff_not, bne_eq_false_iff_eq] at hC
            obtain ⟨⟨c1, c2⟩, c3⟩ := hC
            rw [if_pos rfl, Option.bind_some, show (t : Int) + (k : Int) - 4 = ((t + k - 4 : Nat) : Int) by omega, show ckI .i64 ((t + k - 4 : Nat) : Int) = some ((t + k - 4 : Nat) : Int) from ck_i64 (by omega), Option.bind_some, Option.bind_some, slI_at 4 (by omega) (by omega), Option.bind_some, Option.bind_some]
            have hz := part4_zero hb (i := t + k - 4) (by omega)
            rw [show t + k - 4 + 2 = t + k - 2 by omega] at hz
            by_cases hZ : part xs (t + k - 4) 4 = [0, 0, 0, 0]
            · rw [decide_eq_true hZ, if_neg (by decide)]
              exact .inr ⟨⟨h0.1, h0.2, hH, ⟨b1, by omega, by omega, by omega, b2, (hz.1 hZ).1, (hz.1 hZ).2⟩⟩, rfl⟩
            · rw [decide_eq_false hZ]
              exact .inl ⟨fun T => hZ (hz.2 ⟨T.2.2.2.z1, T.2.2.2.z2⟩), rfl⟩
  · refine .inl ⟨fun h => h0 ⟨h.1, h.2.1⟩, ?_⟩
    unfold p15
    rw [len_eq, orS, Option.bind_some, show (decide ((xs.length : Int) < 12) || decide ((xs.length : Int) > 16384)) = true by rw [Bool.or_eq_true, decide_eq_true_eq, decide_eq_true_eq]; omega]
    rfl
end Go.Proofs.Ytlgalcekkffhnaa
