/- Periods in plain words: the periods of the table. Plain theorems, no condition. -/
import Derived.Test.YtpllbhofpppfcaaP5
import Derived.Test.YtpllbhofpppfcaaXP1
set_option linter.unusedVariables false
set_option linter.unusedSimpArgs false
namespace Go.Proofs.Ytpllbhofpppfcaa
open Go.RowKit

theorem p10_ok : p10 6000 = some true := by kernel_rfl
def L9 : List Int := [1, 2, 4, 8, 16, 32, 64, 128, 256]
def chk (a : Option (Int × Int)) (b : Option Int) : Bool := match a, b with
  | some (a, e), some b => b == a && e == 0 && L9.contains a
  | _, _ => false
def rng (s k : Int) (m : Nat) : Bool := (List.range m).all fun j => chk (p8 6000 s k ((j : Nat) + 1 : Int)) (p9 6000 s k ((j : Nat) + 1 : Int))
theorem rng21 : rng 2 1 16 = true := by kernel_rfl
theorem rng23 : rng 2 3 16 = true := by kernel_rfl
theorem rng11 : rng 1 1 16 = true := by kernel_rfl
theorem rng13 : rng 1 3 255 = true := by kernel_rfl
theorem rng03 : rng 0 3 255 = true := by kernel_rfl
def Per (s k i : Int) : Prop := ∃ a e, p8 6000 s k i = some (a, e) ∧ p9 6000 s k i = some a ∧ (e = 0 ∧ a ∈ L9 ∨ e = 1 ∧ a = 0)
theorem per_in {s k i : Int} {m : Nat} (h : rng s k m = true) (h1 : 1 ≤ i) (h2 : i ≤ m) : Per s k i := by
  have h3 := List.all_eq_true.1 h (i.toNat - 1) (List.mem_range.2 (by omega))
  rw [show (((i.toNat - 1 : Nat) : Int) + 1 : Int) = i by omega] at h3
  cases h8 : p8 6000 s k i with
  | none => rw [h8] at h3; cases h3
  | some q =>
    obtain ⟨a, e⟩ := q
    cases h9 : p9 6000 s k i with
    | none => rw [h8, h9] at h3; cases h3
    | some b =>
      rw [h8, h9] at h3
      simp only [chk, Bool.and_eq_true, beq_iff_eq, List.contains_iff_mem] at h3
      exact ⟨a, e, h8, by rw [h9, h3.1.1], .inl ⟨h3.1.2, h3.2⟩⟩
theorem per_no {s k i : Int} (h8 : p8 6000 s k i = some (0, 1)) (h9 : p9 6000 s k i = some 0) : Per s k i := ⟨0, 1, h8, h9, .inr ⟨rfl, rfl⟩⟩
theorem per {s k : Int} (i : Int) (hs : 0 ≤ s) (hk : 0 ≤ k) : Per s k i := by
  by_cases hb : s = 2 ∨ s = 1 ∨ s = 0
  · by_cases hk2 : k = 1 ∨ k = 3
    · by_cases hz : s = 0 ∧ k = 1
      · obtain ⟨rfl, rfl⟩ := hz
        exact per_no (by simp [p8]) (by simp [p9])
      · by_cases h1 : i < 1
        · rcases hb with rfl | rfl | rfl <;> rcases hk2 with rfl | rfl <;> exact per_no (by simp [p8, h1]) (by simp [p9, h1])
        · by_cases hm : s = 2 ∨ k = 1
          · by_cases h2 : i > 16
            · rcases hb with rfl | rfl | rfl <;> rcases hk2 with rfl | rfl <;> first | (exfalso; revert hm; decide) | (exfalso; revert hz; decide) | exact per_no (by simp [p8, h1, h2]) (by simp [p9, h1, h2])
            · have a1 : 1 ≤ i := by omega
              have a2 : i ≤ (16 : Nat) := by omega
              rcases hk2 with rfl | rfl
              · rcases hb with rfl | rfl | rfl
                · exact per_in rng21 a1 a2
                · exact per_in rng11 a1 a2
                · exact absurd ⟨rfl, rfl⟩ hz
              · obtain rfl : s = 2 := by omega
                exact per_in rng23 a1 a2
          · by_cases h2 : i > 255
            · rcases hb with rfl | rfl | rfl <;> rcases hk2 with rfl | rfl <;> first | (exfalso; revert hm; decide) | (exfalso; revert hz; decide) | exact per_no (by simp [p8, h1, h2]) (by simp [p9, h1, h2])
            · have a1 : 1 ≤ i := by omega
              have a2 : i ≤ (255 : Nat) := by omega
              have hk3 : k = 3 := by omega
              subst hk3
              rcases hb with rfl | rfl | rfl
              · exact absurd (.inl rfl) hm
              · exact per_in rng13 a1 a2
              · exact per_in rng03 a1 a2
    · have n1 : (k != 1) = true := by simp; omega
      have n3 : (k != 3) = true := by simp; omega
      have e1 : (k == 1) = false := by simp; omega
      have e3 : (k == 3) = false := by simp; omega
      rcases hb with rfl | rfl | rfl <;> exact per_no (by simp [p8, n1, n3, e1, e3]) (by simp [p9, n1, n3, e1, e3])
  · have g2 : s > 2 := by omega
    exact per_no (by simp only [p8, g2]; cases h3 : (k == 3) <;> simp [show s ≠ 2 by omega]) (by simp [p9, g2])
def chk2 (a b : Int) : Bool := decide (a > 0) && ((a.tmod b == 0) || (b.tmod a == 0)) && decide (p11 6000 a 0 = some true) && decide (InR .i64 (a.tmod b)) && b != 0
theorem per2 : (L9.all fun a => L9.all fun b => chk2 a b) = true := by kernel_rfl
theorem per_pair {a b : Int} (ha : a ∈ L9) (hb : b ∈ L9) : chk2 a b = true := List.all_eq_true.1 (List.all_eq_true.1 per2 a ha) b hb
theorem p3_l1_ok {x0 x1 i j : Int} {a b e f : Int} (hi : p9 6000 x0 x1 i = some a) (hj : p9 6000 x0 x1 j = some b) (he : (e == 0) = decide (a > 0)) (hf : (f == 0) = decide (b > 0)) : p3_l1 6000 x0 x1 [i, j] (a, e) (b, f) 6000 0 = some (.inl ()) := by
  rw [show (6000 : Nat) = 5997 + 1 + 1 + 1 from rfl, p3_l1, if_pos (by decide), show idx [i, j] 0 = some i from rfl, Option.bind_some, hi, Option.bind_some]
  simp only [bne_self_eq_false, he, Option.bind_some, if_pos, beq_self_eq_true, Bool.not_true]
  rw [show ((0 : Int) == 1) = false from rfl, if_neg (by decide), Option.bind_some, Option.bind_some, if_neg (by decide), show ckI .i64 (0 + 1) = some 1 from rfl, Option.bind_some, p3_l1, if_pos (by decide), show idx [i, j] 1 = some j from rfl, Option.bind_some, hj, Option.bind_some]
  simp only [bne_self_eq_false, hf, Option.bind_some, if_pos, beq_self_eq_true, Bool.not_true]
  rw [show ((1 : Int) == 0) = false from rfl, if_neg (by decide), Option.bind_some, if_pos rfl, Option.bind_some, if_neg (by decide), show ckI .i64 (1 + 1) = some 2 from rfl, Option.bind_some, p3_l1, if_neg (by decide)]
theorem p3_ok {x0 x1 i j : Int} (h0 : 0 ≤ x0) (h1 : 0 ≤ x1) : p3 6000 x0 x1 [i, j] = some true := by
  obtain ⟨a, e, a8, a9, ha⟩ := per i h0 h1
  obtain ⟨b, f, b8, b9, hb⟩ := per j h0 h1
  have pos : ∀ a : Int, a ∈ L9 → a > 0 := by decide
  have he : (e == 0) = decide (a > 0) := by
    rcases ha with ⟨rfl, h⟩ | ⟨rfl, rfl⟩
    · simp [pos a h]
    · rfl
  have hf : (f == 0) = decide (b > 0) := by
    rcases hb with ⟨rfl, h⟩ | ⟨rfl, rfl⟩
    · simp [pos b h]
    · rfl
  unfold p3
  rw [show idx [i, j] 0 = some i from rfl, Option.bind_some, a8, Option.bind_some, show idx [i, j] 1 = some j from rfl, Option.bind_some, b8, Option.bind_some, p3_l1_ok a9 b9 he hf, Option.bind_some]
  show Option.bind _ _ = _
  rcases ha with ⟨rfl, ha⟩ | ⟨rfl, rfl⟩
  · rcases hb with ⟨rfl, hb⟩ | ⟨rfl, rfl⟩
    · have h := per_pair ha hb
      have h' := per_pair hb ha
      simp only [chk2, Bool.and_eq_true, Bool.or_eq_true, decide_eq_true_eq, beq_iff_eq, bne_iff_ne] at h h'
      obtain ⟨⟨⟨⟨g1, g2⟩, g3⟩, g4⟩, g5⟩ := h
      obtain ⟨⟨⟨⟨k1, k2⟩, k3⟩, k4⟩, k5⟩ := h'
      dsimp only
      rw [if_pos (by decide), Option.bind_some, if_neg (by decide), if_pos (by simpa using g1), Option.bind_some, if_pos (by simpa using k1), remI, if_neg g5, ckI_ok g4, Option.bind_some]
      rcases g2 with g2 | g2
      · rw [g2, if_neg (by decide), Option.bind_some, Option.bind_some, if_pos rfl, g3, Option.bind_some, Option.bind_some, if_pos rfl, p10_ok]; rfl
      · rw [remI, if_neg k5, ckI_ok k4, Option.bind_some, g2]
        cases (a.tmod b == 0)
        · rw [if_pos rfl, Option.bind_some, Option.bind_some, if_pos (by decide), g3, Option.bind_some, Option.bind_some, if_pos rfl, p10_ok]; rfl
        · rw [if_neg (by decide), Option.bind_some, Option.bind_some, if_pos (by decide), g3, Option.bind_some, Option.bind_some, if_pos rfl, p10_ok]; rfl
    · dsimp only
      rw [if_pos (by decide), Option.bind_some, if_pos (by decide), p10_ok]; rfl
  · dsimp only
    rw [if_neg (by decide), Option.bind_some, if_pos (by decide), p10_ok]
    rcases hb with ⟨rfl, hb⟩ | ⟨rfl, rfl⟩ <;> rfl
end Go.Proofs.Ytpllbhofpppfcaa
