/- Networks: reading any bytes, in plain words: the tables. Plain theorems, no condition. -/
import Derived.Test.YtlgalcekkffhnaaPD1
set_option linter.unusedVariables false
set_option linter.unusedSimpArgs false
namespace Go.Proofs.Ytlgalcekkffhnaa
open Go.RowKit

theorem raws_app (A B : List (Sl Int)) : raws (A ++ B) = raws A ++ raws B := by unfold raws; rw [List.map_append]
def badB (L a z : Nat) : Bool := decide ((a : Int) < 12) || (a : Int) % 4 != 0 || decide ((z : Int) < 1) || decide ((z : Int) > 1514) || decide ((a : Int) + (z : Int) > (L : Int))
theorem badB_fit {L a z : Nat} (h : badB L a z = false) : a + z ≤ L ∧ z ≤ 1514 := by
  unfold badB at h
  simp only [Bool.or_eq_false_iff, decide_eq_false_iff_not, bne_eq_false_iff_eq] at h
  omega
theorem part_len {xs : List Int} {i k : Nat} (h : i + k ≤ xs.length) : (part xs i k).length = k := by
  unfold part; rw [List.length_take, List.length_drop]; omega
theorem p12_step {n : Nat} {xs : List Int} {c : Option Nat} (hb : byteL xs) {t k m j a z : Nat} {A : List (Sl Int)} (hL : xs.length ≤ 16384) (f1 : t + k ≤ xs.length) (f2 : 12 ≤ k) (hlt : j + 4 < k) (ha : rd xs (t + j) = a) (hz : rd xs (t + j + 2) = z) (hA : A.length ≤ 200000) :
    p12_l1 n ⟨xs, c⟩ t k (m + 1) ((t + j : Nat) : Int) A = if a + z = 0 then some (.inl A) else if badB xs.length a z = true then some (.inr err12) else p12_l1 n ⟨xs, c⟩ t k m ((t + (j + 4) : Nat) : Int) (A ++ [⟨part xs a z, some (part xs a z).length⟩]) := by
  have ra := rd_range hb (t + j)
  have rz := rd_range hb (t + j + 2)
  rw [ha] at ra
  rw [hz] at rz
  have e1 : p25 n ((t + j : Nat) : Int) ⟨xs, c⟩ = some (a : Int) := (p25_rd hb (by omega) (by omega)).trans (by rw [ha])
  have e2 : p25 n ((t + j + 2 : Nat) : Int) ⟨xs, c⟩ = some (z : Int) := (p25_rd hb (by omega) (by omega)).trans (by rw [hz])
  have k1 : ckI .i64 ((t : Int) + (k : Int)) = some ((t : Int) + (k : Int)) := ck_i64 (by omega)
  have k2 : ckI .i64 ((t : Int) + (k : Int) - 4) = some ((t : Int) + (k : Int) - 4) := ck_i64 (by omega)
  have k3 : ckI .i64 (((t + j : Nat) : Int) + 2) = some ((t + j + 2 : Nat) : Int) := ck_i64 (by omega)
  have k4 : ckI .i64 ((a : Int) + (z : Int)) = some ((a : Int) + (z : Int)) := ck_i64 (by omega)
  have k5 : ckI .i64 (((t + j : Nat) : Int) + 4) = some ((t + (j + 4) : Nat) : Int) := (ck_i64 (by omega)).trans (by congr 1)
  have k6 : remI .i64 (a : Int) 4 = some ((a : Int) % 4) := remI_ok (by omega) (by decide) (by rw [inR_i64]; omega)
  rw [p12_l1, k1, Option.bind_some, k2, Option.bind_some, if_pos (decide_eq_true (show ((t + j : Nat) : Int) < (t : Int) + (k : Int) - 4 by omega)), e1, Option.bind_some, k3, Option.bind_some, e2, Option.bind_some, andS, Option.bind_some]
  by_cases hz0 : a + z = 0
  · rw [if_pos (by rw [show a = 0 by omega, show z = 0 by omega]; rfl), if_pos hz0]
  · rw [if_neg (by simp only [Bool.and_eq_true, beq_iff_eq]; omega), if_neg hz0, k6, Option.bind_some, orS, Option.bind_some, orS, Option.bind_some, orS, Option.bind_some, k4, Option.bind_some, len_eq, orS, Option.bind_some]
    show (if badB xs.length a z = true then _ else _) = _
    cases hB : badB xs.length a z with
    | true => rfl
    | false =>
      have hf := badB_fit hB
      rw [if_neg (by decide), if_neg (by decide), Option.bind_some, slI_at z rfl hf.1, Option.bind_some, p26_eq n _ (by show (part xs a z).length ≤ _; rw [part_len hf.1]; omega), Option.bind_some, p24_eq, Option.bind_some, appI_ok (by rw [List.length_singleton]; omega), Option.bind_some, k5, Option.bind_some]
theorem p15_step {n : Nat} {xs : List Int} {c : Option Nat} (hb : byteL xs) {t k m j a z : Nat} {A : List (Sl Int)} (hL : xs.length ≤ 16384) (f1 : t + k ≤ xs.length) (f2 : 12 ≤ k) (hlt : j + 4 < k) (ha : rd xs (t + j) = a) (hz : rd xs (t + j + 2) = z) (hA : A.length ≤ 200000) :
    p15_l1 n ⟨xs, c⟩ t k (m + 1) (j : Int) A = if a + z = 0 then some (.inl A) else if badB xs.length a z = true then some (.inr err15) else p15_l1 n ⟨xs, c⟩ t k m ((j + 4 : Nat) : Int) (A ++ [⟨part xs a z, c.map (· - a)⟩]) := by
  have ra := rd_range hb (t + j)
  have rz := rd_range hb (t + j + 2)
  rw [ha] at ra
  rw [hz] at rz
  have e1 : p14 n ⟨xs, c⟩ ((t + j : Nat) : Int) = some (a : Int) := (p14_rd hb (by omega) (by omega)).trans (by rw [ha])
  have e2 : p14 n ⟨xs, c⟩ ((t + j + 2 : Nat) : Int) = some (z : Int) := (p14_rd hb (by omega) (by omega)).trans (by rw [hz])
  have k1 : ckI .i64 ((j : Int) + 4) = some ((j + 4 : Nat) : Int) := (ck_i64 (by omega)).trans (by congr 1)
  have k2 : ckI .i64 ((t : Int) + (j : Int)) = some ((t + j : Nat) : Int) := (ck_i64 (by omega)).trans (by congr 1)
  have k3 : ckI .i64 (((t + j : Nat) : Int) + 2) = some ((t + j + 2 : Nat) : Int) := ck_i64 (by omega)
  have k4 : ckI .i64 ((a : Int) + (z : Int)) = some ((a : Int) + (z : Int)) := ck_i64 (by omega)
  have k6 : remI .i64 (a : Int) 4 = some ((a : Int) % 4) := remI_ok (by omega) (by decide) (by rw [inR_i64]; omega)
  rw [p15_l1, k1, Option.bind_some, if_pos (decide_eq_true (show ((j + 4 : Nat) : Int) < (k : Int) by omega)), k2, Option.bind_some, e1, Option.bind_some, Option.bind_some, k3, Option.bind_some, e2, Option.bind_some, k4, Option.bind_some]
  by_cases hz0 : a + z = 0
  · rw [if_pos (by rw [show a = 0 by omega, show z = 0 by omega]; rfl), if_pos hz0]
  · rw [if_neg (by simp only [beq_iff_eq]; omega), if_neg hz0, k6, Option.bind_some, orS, Option.bind_some, orS, Option.bind_some, orS, Option.bind_some, Option.bind_some, len_eq, orS, Option.bind_some]
    rw [show ((z : Int) == 0) = decide ((z : Int) < 1) by rw [Bool.eq_iff_iff, beq_iff_eq, decide_eq_true_eq]; omega]
    show (if badB xs.length a z = true then _ else _) = _
    cases hB : badB xs.length a z with
    | true => rfl
    | false =>
      have hf := badB_fit hB
      rw [if_neg (by decide), if_neg (by decide), Option.bind_some, slI_at z rfl hf.1, Option.bind_some, appI_ok (by rw [List.length_singleton]; omega), Option.bind_some, Option.bind_some]
theorem loops_eq {n : Nat} {xs : List Int} {c : Option Nat} (hb : byteL xs) {t k : Nat} (hL : xs.length ≤ 16384) (hT : Tab xs t k) : ∀ (m j : Nat) (A B : List (Sl Int)), j ≤ k → k < j + m → raws A = raws B → A.length ≤ 100000 + j → B.length ≤ 100000 + j →
    (∃ A' B', p12_l1 n ⟨xs, c⟩ t k m ((t + j : Nat) : Int) A = some (.inl A') ∧ p15_l1 n ⟨xs, c⟩ t k m (j : Int) B = some (.inl B') ∧ raws A' = raws B') ∨ (p12_l1 n ⟨xs, c⟩ t k m ((t + j : Nat) : Int) A = some (.inr err12) ∧ p15_l1 n ⟨xs, c⟩ t k m (j : Int) B = some (.inr err15)) := by
  have f1 := hT.fit
  have f2 := hT.k12
  intro m
  induction m with
  | zero => intro j A B h1 h2; exact absurd h2 (by omega)
  | succ m ih =>
    intro j A B h1 h2 hr hA hB
    by_cases hlt : j + 4 < k
    · obtain ⟨a, ha⟩ : ∃ a : Nat, rd xs (t + j) = a := ⟨(rd xs (t + j)).toNat, by have := rd_range hb (t + j); omega⟩
      obtain ⟨z, hz⟩ : ∃ z : Nat, rd xs (t + j + 2) = z := ⟨(rd xs (t + j + 2)).toNat, by have := rd_range hb (t + j + 2); omega⟩
      rw [p12_step hb hL f1 f2 hlt ha hz (by omega), p15_step hb hL f1 f2 hlt ha hz (by omega)]
      by_cases hz0 : a + z = 0
      · rw [if_pos hz0, if_pos hz0]; exact .inl ⟨A, B, rfl, rfl, hr⟩
      · rw [if_neg hz0, if_neg hz0]
        cases hbad : badB xs.length a z with
        | true => exact .inr ⟨rfl, rfl⟩
        | false =>
          rw [if_neg (by decide), if_neg (by decide)]
          exact ih (j + 4) _ _ (by omega) (by omega) (by rw [raws_app, raws_app, hr]; rfl) (by rw [List.length_append, List.length_singleton]; omega) (by rw [List.length_append, List.length_singleton]; omega)
    · left
      refine ⟨A, B, ?_, ?_, hr⟩
      · rw [p12_l1, ck_i64 (by omega), Option.bind_some, ck_i64 (by omega), Option.bind_some, if_neg (by rw [decide_eq_true_eq]; omega)]
      · rw [p15_l1, ck_i64 (by omega), Option.bind_some, if_neg (by rw [decide_eq_true_eq]; omega)]
/-- Both readings of any bytes say the same. -/
theorem dec_same {n : Nat} (hn : 20000 ≤ n) {xs : List Int} {c : Option Nat} (hb : byteL xs) : ∃ (W : Sl (Sl Int)) (G : Int × Sl (Sl Int)) (e : Int), p15 n ⟨xs, c⟩ = some (W, e) ∧ p12 n ⟨xs, c⟩ = some (G, e) ∧ raws G.2.xs = raws W.xs ∧ (e ≠ 0 → G.1 = 0) ∧ (e = 0 → 12 ≤ xs.length ∧ xs.length ≤ 16384 ∧ G.1 = rd xs 6) ∧ G.2.xs.length ≤ 64 := by
  obtain ⟨t, ht⟩ : ∃ a : Nat, rd xs 10 = a := ⟨(rd xs 10).toNat, by have := rd_range hb 10; omega⟩
  obtain ⟨k, hk⟩ : ∃ a : Nat, rd xs (t + 4) = a := ⟨(rd xs (t + 4)).toNat, by have := rd_range hb (t + 4); omega⟩
  rcases p15_dec (n := n) (c := c) hb ht hk with ⟨h1, h2⟩ | ⟨⟨a1, a2, aH, aT⟩, h2⟩
  · refine ⟨⟨[], some 0⟩, (0, ⟨[], some 0⟩), 4, h2, ?_, rfl, fun _ => rfl, fun e => absurd (show (4 : Int) = 0 from e) (by decide), by decide⟩
    rcases p12_head (n := n) (c := c) hb ht with ⟨_, h3⟩ | ⟨b1, b2, bH⟩
    · exact h3
    · rcases p12_tab (n := n) (c := c) hb ht b1 b2 bH hk with ⟨_, h3⟩ | ⟨bT, _⟩
      · exact h3
      · exact absurd ⟨b1, b2, bH, bT⟩ h1
  · rcases p12_tab (n := n) (c := c) hb ht a1 a2 aH hk with ⟨h3, _⟩ | ⟨_, h3⟩
    · exact absurd aT h3
    · have f1 := aT.fit
      rw [h2, h3]
      rcases loops_eq (n := n) (c := c) hb a2 aT n 8 [] [] (by have := aT.k12; omega) (by omega) rfl (by simp) (by simp) with ⟨A, B, e1, e2, e3⟩ | ⟨e1, e2⟩
      · have hl : A.length = B.length := by have := congrArg List.length e3; simpa [raws] using this
        rw [e1, e2, Option.bind_some, Option.bind_some, lrKlD, lrKlD, len_eq, len_eq, hl]
        by_cases h64 : (B.length : Int) > 64
        · rw [if_pos (decide_eq_true h64), if_pos (decide_eq_true h64)]
          exact ⟨_, _, _, rfl, rfl, rfl, fun _ => rfl, fun e => absurd (show (3 : Int) = 0 from e) (by decide), by decide⟩
        · rw [if_neg (by rw [decide_eq_true_eq]; exact h64), if_neg (by rw [decide_eq_true_eq]; exact h64), p27_eq, Option.bind_some]
          exact ⟨_, _, _, rfl, rfl, e3, fun e => absurd rfl e, fun _ => ⟨a1, a2, rfl⟩, by show A.length ≤ 64; omega⟩
      · rw [e1, e2]
        exact ⟨_, _, _, rfl, rfl, rfl, fun _ => rfl, fun e => absurd (show (4 : Int) = 0 from e) (by decide), by decide⟩
end Go.Proofs.Ytlgalcekkffhnaa
