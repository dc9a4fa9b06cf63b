/- Powers in plain words: what items take, as the law computes it. Plain theorems, no condition. -/
import Derived.Test.YtnelgpgmggcdcaaPP2
set_option linter.unusedVariables false
set_option linter.unusedSimpArgs false
namespace Go.Proofs.Ytnelgpgmggcdcaa
open Go.RowKit

theorem idxD {α : Type} {xs : List α} {i : Nat} (d : α) (h : i < xs.length) : idx xs (i : Int) = some (xs.getD i d) := by
  rw [idx_nat, List.getElem?_eq_getElem h, List.getD_eq_getElem?_getD, List.getElem?_eq_getElem h]; rfl
theorem sumP_some {p : Nat → Prop} [DecidablePred p] {h : Nat → Int} {n a : Nat} : sumP p h (n + 1) a = (if p a then h a else 0) + sumP p h n (a + 1) := rfl
theorem nat_sub_succ {a k : Nat} (h : k < a) : a - k = (a - (k + 1)) + 1 := by omega
theorem lenI_mk {α : Type} (l : List α) (c : Option Nat) : lenI (⟨l, c⟩ : Sl α) = (l.length : Int) := rfl
theorem p10_l1_self {l : List It} {cp : Option Nat} {i : Nat} (hi : i < l.length) (hs : self (g l i) = true) (n : Nat) (mk : List Int) (rec_ : Sl It → Int → List Int → Option Int) (m : Nat) (k acc : Int) : p10_l1 n ⟨l, cp⟩ i mk rec_ (m + 1) k acc = some acc := by
  unfold p10_l1
  rw [idx_g hi, Option.bind_some, show (g l i).2.2.2.1 = self (g l i) from rfl, hs]
  cases decide (k < lenI (⟨l, cp⟩ : Sl It)) <;> rfl
theorem p10_l1_eq {l : List It} {cp : Option Nat} (hl : l.length ≤ 200) {i : Nat} (hi : i < l.length) (hs : self (g l i) = false) (n : Nat) (mk : List Int) (rec_ : Sl It → Int → List Int → Option Int) (t : Nat → Int)
    (hr : ∀ k, i < k → k < l.length → up (g l k) = i → rec_ ⟨l, cp⟩ k mk = some (t k)) (ht : ∀ k, i < k → k < l.length → 0 ≤ t k) : ∀ (m k : Nat) (acc : Int), i < k → k ≤ l.length → l.length - k < m → 0 ≤ acc → acc + sumP (kid l i) t (l.length - k) k ≤ 1000000 →
    p10_l1 n ⟨l, cp⟩ i mk rec_ m k acc = some (acc + sumP (kid l i) t (l.length - k) k)
  | 0, k, acc, _, _, h, _, _ => absurd h (by omega)
  | m + 1, k, acc, hk, hkl, hm, h0, hb => by
    unfold p10_l1
    rw [idx_g hi, Option.bind_some, show (g l i).2.2.2.1 = self (g l i) from rfl, hs, lenI_mk]
    by_cases hlt : k < l.length
    · rw [nat_sub_succ hlt, sumP_some] at hb
      have hnn : 0 ≤ sumP (kid l i) t (l.length - (k + 1)) (k + 1) := sumP_nonneg _ _ fun j a b => ht j (by omega) (by omega)
      have htk := ht k hk hlt
      rw [decide_eq_true (show (k : Int) < (l.length : Int) by omega), if_pos rfl, Option.bind_some, ifNot, idx_g hlt, Option.bind_some, show (g l k).1 = up (g l k) from rfl]
      rw [nat_sub_succ hlt, sumP_some]
      by_cases hp : up (g l k) = (i : Int)
      · have hpk : kid l i k := hp
        rw [if_pos hpk] at hb
        rw [if_pos (by simpa using hp), hr k hk hlt hp, Option.bind_some, ckS (by omega) (by omega), Option.bind_some, Option.bind_some, ckS (by omega) (by omega), Option.bind_some, if_pos hpk]
        have ih := p10_l1_eq (cp := cp) hl hi hs n mk rec_ t hr ht m (k + 1) (acc + t k) (by omega) (by omega) (by omega) (by omega) (by omega)
        rw [show ((k : Int) + 1) = ((k + 1 : Nat) : Int) by simp, ih]
        congr 1; omega
      · have hpk : ¬ kid l i k := hp
        rw [if_neg hpk] at hb
        rw [if_neg (by simpa using hp), Option.bind_some, ckS (by omega) (by omega), Option.bind_some, if_neg hpk]
        have ih := p10_l1_eq (cp := cp) hl hi hs n mk rec_ t hr ht m (k + 1) acc (by omega) (by omega) (by omega) (by omega) (by omega)
        rw [show ((k : Int) + 1) = ((k + 1 : Nat) : Int) by simp, ih]
        congr 1; omega
    · have : k = l.length := by omega
      subst this
      rw [decide_eq_false (by omega), if_neg (by decide), Option.bind_some, if_neg (by decide), Nat.sub_self]
      unfold sumP
      congr 1; omega
/-- What is marked takes nothing. -/
def mphi (mk : List Int) (i : Nat) (s : Int) : Int := if mk.getD i 0 = 1 then 0 else s
theorem mphi_ok (mk : List Int) : Phi (mphi mk) := fun i s h => by unfold mphi; split <;> omega
theorem p10_eq {l : List It} {cp : Option Nat} (h : WT l) {mk : List Int} (hm : l.length ≤ mk.length) : ∀ (f n i : Nat), i < l.length → l.length - i ≤ f → 400 + f ≤ n → p10 n ⟨l, cp⟩ i mk = some (T l (mphi mk) i)
  | 0, n, i, hi, hf, _ => absurd hf (by omega)
  | f + 1, n, i, hi, hf, hn => by
    obtain ⟨n, rfl⟩ : ∃ k, n = k + 1 := ⟨n - 1, by omega⟩
    have hl := h.len
    show p10_b n (p10 n) ⟨l, cp⟩ i mk = _
    unfold p10_b
    rw [p26_eq h (by omega) hi, Option.bind_some, T_eq hl hi]
    cases hlit : lit l i with
    | false => rfl
    | true =>
      rw [if_pos rfl, show ((1 : Int) == 0) = false from rfl, if_pos rfl, idxD 0 (show i < mk.length by omega), Option.bind_some, Option.bind_some, if_pos rfl]
      unfold mphi
      by_cases hmk : mk.getD i 0 = 1
      · rw [hmk, if_pos (by decide), if_pos rfl]
      · rw [if_neg (by simpa using hmk), if_neg hmk, idx_g hi, Option.bind_some, p13_eq, Option.bind_some, ckS (by omega) (by omega), Option.bind_some, show ((i : Int) + 1) = ((i + 1 : Nat) : Int) by simp]
        have ho := own_ok h hi
        unfold raw
        cases hs : self (g l i) with
        | true =>
          obtain ⟨q, rfl⟩ : ∃ k, n = k + 1 := ⟨n - 1, by omega⟩
          rw [p10_l1_self hi hs, Option.bind_some, if_pos rfl, Int.add_zero]
        | false =>
          have hk := kids_le h (mphi_ok mk) (i := i) (a := i + 1) (n := l.length - (i + 1)) (by omega) (by omega)
          rw [p10_l1_eq hl hi hs n mk (p10 n) (T l (mphi mk)) (fun k h1 h2 _ => p10_eq h hm f n k h2 (by omega) (by omega)) (fun k h1 h2 => T_nonneg h (mphi_ok mk) h2) n (i + 1) _ (by omega) (by omega) (by omega) (by omega) (by omega), Option.bind_some, if_neg (by decide)]
          rfl
/-- What is over takes nothing. -/
def cphi (l : List It) (i : Nat) (s : Int) : Int := if s > lim l i then 0 else s
theorem cphi_ok (l : List It) : Phi (cphi l) := fun i s h => by unfold cphi; split <;> omega
end Go.Proofs.Ytnelgpgmggcdcaa
