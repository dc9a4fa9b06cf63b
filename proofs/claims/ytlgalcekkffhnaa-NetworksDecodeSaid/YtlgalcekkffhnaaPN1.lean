/- NetworksBack in plain words, first part: the small functions. -/
import Derived.Test.YtlgalcekkffhnaaXP1
import Derived.Test.YtlgalcekkffhnaaP2
set_option linter.unusedVariables false
set_option linter.unusedSimpArgs false
namespace Go.Proofs.Ytlgalcekkffhnaa
open Go.RowKit

theorem len_eq {α : Type} (xs : List α) (c : Option Nat) : lenI (⟨xs, c⟩ : Sl α) = (xs.length : Int) := rfl
theorem p20_eq (n : Nat) {x : Int} (h : 0 ≤ x ∧ x ≤ 1099511627776) : p20 n x = some ((x + 3) / 4 * 4) := by
  unfold p20
  rw [ck_i64 (by omega), Option.bind_some, quoI_ok (by omega) (by decide) (by simp; omega), Option.bind_some, ck_i64 (by omega), Option.bind_some]
theorem p23_eq (n : Nat) {x : Int} (h : 0 ≤ x ∧ x ≤ 65535) : p23 n x = some ⟨[x % 256, x / 256], some 2⟩ := by
  unfold p23
  rw [shrI_8 (by decide) h.1, Option.bind_some, wrap_u8, wrap_u8, show x / 256 % 256 = x / 256 by omega]
theorem p28_eq (n : Nat) {k : Int} (h : 0 ≤ k ∧ k ≤ 1099511627776) : p28 n k = some ⟨[], .none⟩ := by
  unfold p28
  rw [if_neg (by simp; omega), show capO (⟨[], some 0⟩ : Sl Int) = some 0 from rfl, Option.bind_some, show lenI (⟨[], some 0⟩ : Sl Int) = 0 from rfl, ck_i64 (by omega), Option.bind_some, ck_i64 (by omega), Option.bind_some]
  by_cases hk : k > 0
  · have e1 : k - (0 - 0) = k := by omega
    rw [e1, if_pos (by simpa using hk), Option.bind_some, show cutI ([] : List Int) 0 = some [] from rfl, Option.bind_some]
    rw [show appZ ([] : List Int) k 0 = some (List.replicate k.toNat 0) by unfold appZ; rw [if_pos ⟨by omega, by simp; omega⟩]; simp, Option.bind_some]
    rw [show cutI (List.replicate k.toNat (0 : Int)) 0 = some [] by unfold cutI; rw [if_pos ⟨Int.le_refl 0, Int.natCast_nonneg _⟩]; simp, Option.bind_some, Option.bind_some]
  · rw [if_neg (by simp; omega), Option.bind_some]
def cat : List (Sl Int) → List Int
  | [] => []
  | s :: l => s.xs ++ cat l
@[simp] theorem cat_nil : cat [] = [] := rfl
@[simp] theorem cat_cons (s : Sl Int) (l : List (Sl Int)) : cat (s :: l) = s.xs ++ cat l := rfl
theorem p22_l1_eq (n : Nat) (x : Sl (Sl Int)) (hL : x.xs.length ≤ 1000000) : ∀ (m k : Nat) (acc : Int), x.xs.length < k + m → k ≤ x.xs.length → 0 ≤ acc → acc + (cat (x.xs.drop k)).length ≤ 1099511627776 →
    p22_l1 n x m k acc = some (acc + (cat (x.xs.drop k)).length)
  | 0, k, acc, h, hk, _, _ => by omega
  | m + 1, k, acc, h, hk, h0, hs => by
    unfold p22_l1
    by_cases hlt : k < x.xs.length
    · have ex := List.drop_eq_getElem_cons hlt
      have e2 : (cat (x.xs.drop k)).length = x.xs[k].xs.length + (cat (x.xs.drop (k + 1))).length := by rw [ex, cat_cons, List.length_append]
      rw [if_pos (by simp [lenI]; omega), idx_nat, List.getElem?_eq_getElem hlt, Option.bind_some, ck_i64 (by simp only [lenI]; omega), Option.bind_some, if_neg (by rw [decide_eq_true_eq]; simp only [lenI]; omega), ck_i64 (by omega), Option.bind_some,
        show ((k : Int) + 1) = ((k + 1 : Nat) : Int) by simp, p22_l1_eq n x hL m (k + 1) _ (by omega) (by omega) (by simp only [lenI]; omega) (by simp only [lenI]; omega)]
      simp only [lenI]
      congr 1
      omega
    · rw [if_neg (by simp [lenI]; omega), List.drop_eq_nil_of_le (by omega)]
      simp
theorem p22_l2_eq (n : Nat) (x : Sl (Sl Int)) (hL : x.xs.length ≤ 1000000) : ∀ (m k : Nat) (acc : List Int), x.xs.length < k + m → k ≤ x.xs.length → acc.length + (cat (x.xs.drop k)).length ≤ 1099511627776 →
    p22_l2 n x m k acc = some (acc ++ cat (x.xs.drop k))
  | 0, k, acc, h, hk, _ => by omega
  | m + 1, k, acc, h, hk, hs => by
    unfold p22_l2
    by_cases hlt : k < x.xs.length
    · have ex := List.drop_eq_getElem_cons hlt
      have e2 : cat (x.xs.drop k) = x.xs[k].xs ++ cat (x.xs.drop (k + 1)) := by rw [ex, cat_cons]
      rw [e2, List.length_append] at hs
      rw [if_pos (by simp [lenI]; omega), idx_nat, List.getElem?_eq_getElem hlt, Option.bind_some, appI_ok (by omega), Option.bind_some, ck_i64 (by omega), Option.bind_some,
        show ((k : Int) + 1) = ((k + 1 : Nat) : Int) by simp, p22_l2_eq n x hL m (k + 1) _ (by omega) (by omega) (by rw [List.length_append]; omega), e2, List.append_assoc]
    · rw [if_neg (by simp [lenI]; omega), List.drop_eq_nil_of_le (by omega)]
      simp
theorem p22_eq (n : Nat) (x : Sl (Sl Int)) (hL : x.xs.length < n) (hL' : x.xs.length ≤ 1000000) (hs : (cat x.xs).length ≤ 1099511627776) : p22 n x = some ⟨cat x.xs, .none⟩ := by
  unfold p22
  have e : p22_l1 n x n 0 0 = some (0 + ((cat (x.xs.drop 0)).length : Int)) := p22_l1_eq n x hL' n 0 0 (by omega) (by omega) (by omega) (by rw [List.drop_zero]; omega)
  have e2 : p22_l2 n x n 0 [] = some ([] ++ cat (x.xs.drop 0)) := p22_l2_eq n x hL' n 0 [] (by omega) (by omega) (by rw [List.drop_zero]; simpa using hs)
  rw [List.drop_zero] at e e2
  rw [e, Option.bind_some, p28_eq n (by omega), Option.bind_some, e2, Option.bind_some, List.nil_append]
theorem p24_eq (n : Nat) (x : Sl Int) : p24 n x = some ⟨x.xs, some x.xs.length⟩ := by
  unfold p24 sl3I
  rw [if_pos (by simp [lenI])]
  simp [lenI]
theorem p27_eq (n : Nat) (x : Sl (Sl Int)) : p27 n x = some ⟨x.xs, some x.xs.length⟩ := by
  unfold p27 sl3I
  rw [if_pos (by simp [lenI])]
  simp [lenI]
theorem p26_eq (n : Nat) (x : Sl Int) (h : x.xs.length ≤ 1000000) : p26 n x = some ⟨x.xs, capA (some 0) x.xs.length⟩ := by
  unfold p26
  rw [appI_ok (by simp; omega), Option.bind_some]
  simp
theorem or64I {a b : Int} (ha : 0 ≤ a ∧ a ≤ 255) (hb : 0 ≤ b ∧ b ≤ 255) : bitsI .or .i64 a (b * 256) = a + 256 * b := by
  obtain ⟨m, rfl⟩ := Int.eq_ofNat_of_zero_le ha.1
  obtain ⟨n, rfl⟩ := Int.eq_ofNat_of_zero_le hb.1
  have h1 : m < 2 ^ 8 := by omega
  have e : ((n : Int) * 256) = ((n * 256 : Nat) : Int) := by simp
  rw [e]
  show IntKind.wrap .i64 ((BitVec.ofInt 64 (m : Int) ||| BitVec.ofInt 64 ((n * 256 : Nat) : Int)).toNat : Int) = _
  simp only [BitVec.toNat_or, BitVec.ofInt_natCast, BitVec.toNat_ofNat]
  rw [Nat.mod_eq_of_lt (by omega : m < 2 ^ 64), Nat.mod_eq_of_lt (by omega : n * 256 < 2 ^ 64), Nat.or_comm, show n * 256 = n <<< 8 by rw [Nat.shiftLeft_eq], ← Nat.shiftLeft_add_eq_or_of_lt h1, Nat.shiftLeft_eq, IntKind.wrap_i64]
  omega
theorem shl64_8 {b : Int} (hb : 0 ≤ b ∧ b ≤ 255) : shlI .i64 b 8 = some (b * 256) := by
  unfold shlI
  rw [if_pos (by decide)]
  congr 1
  show IntKind.wrap .i64 (b * 2 ^ 8) = b * 256
  rw [IntKind.wrap_i64]
  omega
theorem p25_eq (n i : Nat) {x y : Int} (s : Sl Int) (h1 : s.xs[i]? = some x) (h2 : s.xs[i + 1]? = some y) (hi : i < 1000000) (hx : 0 ≤ x ∧ x ≤ 255) (hy : 0 ≤ y ∧ y ≤ 255) : p25 n i s = some (x + 256 * y) := by
  unfold p25
  rw [idx_nat, h1, Option.bind_some, ck_i64 (by omega), Option.bind_some, show ((i : Int) + 1) = ((i + 1 : Nat) : Int) by simp, idx_nat, h2, Option.bind_some, shl64_8 hy, Option.bind_some, or64I hx hy]
theorem p14_eq (n i : Nat) {x y : Int} (s : Sl Int) (h1 : s.xs[i]? = some x) (h2 : s.xs[i + 1]? = some y) (hi : i < 1000000) (hx : 0 ≤ x ∧ x ≤ 255) (hy : 0 ≤ y ∧ y ≤ 255) : p14 n s i = some (x + 256 * y) := by
  unfold p14
  rw [idx_nat, h1, Option.bind_some, ck_i64 (by omega), Option.bind_some, show ((i : Int) + 1) = ((i + 1 : Nat) : Int) by simp, idx_nat, h2, Option.bind_some, ck_i64 (by omega), Option.bind_some, ck_i64 (by omega), Option.bind_some]
end Go.Proofs.Ytlgalcekkffhnaa
