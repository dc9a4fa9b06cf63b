/- What the functions that the laws of descriptors share compute. -/
import Derived.Test.YtojifdijcanbpaaXP1
import Derived.Test.YtojifdijcanbpaaQ1
set_option linter.unusedVariables false
set_option linter.unusedSimpArgs false
namespace Go.Proofs.Ytojifdijcanbpaa
open Go.RowKit

theorem p42_eq (n : Nat) (x : Int) : p42 n x = some (x % 256) := by simp [p42, wrap_u8]
theorem p43_eq (n : Nat) {x : Int} (h : 0 ≤ x ∧ x ≤ 65535) : p43 n x = some (x / 256) := by
  unfold p43
  rw [shrI_8 (by decide) h.1, Option.bind_some, wrap_u8]
  congr 1
  omega
theorem p41_eq (n : Nat) {k : Int} (s : Sl Int) (h : s.xs.length ≤ 253) : p41 n k s = some ⟨((s.xs.length : Int) + 2) :: k :: s.xs, some (s.xs.length + 2)⟩ := by
  unfold p41
  have hl : lenI s + 2 = ((s.xs.length + 2 : Nat) : Int) := by simp [lenI]
  rw [hl, ck_i64 (by omega), Option.bind_some, mkI_ok (by omega) (by omega) (by omega), Option.bind_some, Option.bind_some]
  rw [appI_ok (by simp), Option.bind_some, appI_ok (by simp; omega), Option.bind_some, wrap_u8]
  have e1 : ((s.xs.length + 2 : Nat) : Int) % 256 = (s.xs.length : Int) + 2 := by omega
  have e3 : (((s.xs.length + 2 : Nat) : Int)).toNat = s.xs.length + 2 := by omega
  simp only [e1, e3, Int.toNat_zero, List.replicate_zero, List.nil_append, capA, List.length_cons, List.length_nil, List.length_append, if_pos (by omega : 0 + 1 + 1 ≤ s.xs.length + 2), List.cons_append]
  rw [if_pos (by omega)]
theorem p38_eq (n : Nat) {x : Int} (h : 0 ≤ x ∧ x ≤ 65535) : p38 n x = some [x % 256, x / 256] := by
  unfold p38
  rw [remI_ok h.1 (by decide) (by simp; omega), Option.bind_some, quoI_ok h.1 (by decide) (by simp; omega), Option.bind_some, wrap_u8, wrap_u8]
  congr 1
  simp
  omega
theorem p46_eq (n k : Nat) {x y : Int} (s : Sl Int) (h1 : s.xs[k]? = some x) (h2 : s.xs[k + 1]? = some y) (hk : k < 1000) (hx : 0 ≤ x ∧ x ≤ 255) (hy : 0 ≤ y ∧ y ≤ 255) : p46 n s k = some (x + 256 * y) := by
  unfold p46
  rw [idx_nat, h1, Option.bind_some, ck_i64 (by omega), Option.bind_some, show ((k : Int) + 1) = ((k + 1 : Nat) : Int) by simp, idx_nat, h2, Option.bind_some, shl_8 hy, Option.bind_some, or16I hx hy]
theorem p55_l1_eq (n : Nat) (x y : Sl Int) (hl : x.xs.length = y.xs.length) (hB : x.xs.length < 1000000) : ∀ (m k : Nat), x.xs.length < k + m → k ≤ x.xs.length → p55_l1 n x y m k = some (if x.xs.drop k = y.xs.drop k then .inl () else .inr false)
  | 0, k, h, hk => by omega
  | m + 1, k, h, hk => by
    unfold p55_l1
    by_cases hlt : k < x.xs.length
    · have hy : k < y.xs.length := by omega
      have e : decide ((k : Int) < lenI x) = true := by simp [lenI]; omega
      have ex := List.drop_eq_getElem_cons hlt
      have ey := List.drop_eq_getElem_cons hy
      rw [if_pos e, idx_nat, idx_nat, List.getElem?_eq_getElem hlt, List.getElem?_eq_getElem hy, Option.bind_some, Option.bind_some, ex, ey]
      by_cases hne : x.xs[k] = y.xs[k]
      · rw [if_neg (by simp [hne]), ck_i64 (by omega), Option.bind_some, show ((k : Int) + 1) = ((k + 1 : Nat) : Int) by simp, p55_l1_eq n x y hl hB m (k + 1) (by omega) (by omega)]
        simp only [hne, List.cons.injEq, true_and]
      · rw [if_pos (by simpa using hne), if_neg (by intro hc; exact hne (List.cons.inj hc).1)]
    · have e : ¬ decide ((k : Int) < lenI x) = true := by simp [lenI]; omega
      rw [if_neg e, List.drop_eq_nil_of_le (by omega), List.drop_eq_nil_of_le (by omega)]
      rfl
theorem p55_eq {n : Nat} (x y : Sl Int) (hB : x.xs.length < n) (hn : n < 1000000) : p55 n x y = some (decide (x.xs = y.xs)) := by
  unfold p55
  by_cases hl : x.xs.length = y.xs.length
  · rw [if_neg (by simp [lenI, hl]), show (0 : Int) = ((0 : Nat) : Int) from rfl, p55_l1_eq n x y hl (by omega) n 0 (by omega) (by omega)]
    by_cases he : x.xs = y.xs <;> simp [he, lrK]
  · rw [if_pos (by simp [lenI]; omega)]
    have : x.xs ≠ y.xs := fun h => hl (by rw [h])
    simp [this]
theorem p22_eq (n : Nat) (x0 x1 x2 : Int) : p22 n x0 x1 x2 = some (x0 == if x1 = x2 then 4 else 5) := by
  unfold p22
  by_cases h : x1 = x2 <;> simp [h]
/-- good: the bytes are those wanted, with no room behind, and no error; or nothing, and the error. -/
theorem p19_ok (n : Nat) (l : List Int) (h : l ≠ []) : p19 n ⟨l, some l.length⟩ 0 l = some true := by simp [p19, h, capO, lenS]
theorem p19_no (n : Nat) : p19 n ⟨[], some 0⟩ 1 [] = some true := by simp [p19, lenI]
end Go.Proofs.Ytojifdijcanbpaa
