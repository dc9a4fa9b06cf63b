/- Suspends: the law of quiet, in plain words. Plain theorems, no condition. -/
import Derived.Test.YtflieonbbggmhaaSU6
import Derived.Test.YtflieonbbggmhaaPq1
import Derived.Test.YtflieonbbggmhaaXE16
set_option linter.unusedVariables false
set_option linter.unusedSimpArgs false
namespace Go.Proofs.Ytflieonbbggmhaa
open Go.RowKit

set_option maxRecDepth 1000000 in
theorem lives4 : p8 6000 = some true := by kernel_rfl
theorem p4_l1_eq {n : Nat} (hn : 300 ≤ n) {x : Sl (Int × Int × Bool × Int)} (hx : ∀ a ∈ x.xs, okA a) (hl : x.xs.length ≤ 1000000) : ∀ (m k : Nat) (l : Sl Nd), k ≤ x.xs.length → x.xs.length - k < m → V l.xs → B3 l.xs → ∃ r : Sl Nd, p4_l1 n x m k l = some r ∧ V r.xs ∧ B3 r.xs
  | 0, k, l, _, h, _, _ => absurd h (by omega)
  | m + 1, k, l, hk, hm, hV, hB => by
    unfold p4_l1
    rw [len_def]
    by_cases hlt : k < x.xs.length
    · obtain ⟨r, h1, h2⟩ := p9_three hn (c := l.cap) hV hB (hx _ (List.getElem_mem hlt))
      rw [if_pos (decide_eq_true (show (k : Int) < (x.xs.length : Int) by omega)), idxE hlt, Option.bind_some, show p9 n l x.xs[k] = some r from h1, Option.bind_some]
      by_cases he : r.2.2 = 0
      · rw [if_pos (by rw [he]; rfl), Option.bind_some, ckS (by omega) (by omega), Option.bind_some, castS]
        exact p4_l1_eq hn hx hl m (k + 1) _ (by omega) (by omega) (h2 he).1 (h2 he).2
      · rw [if_neg (by simpa using he), Option.bind_some, ckS (by omega) (by omega), Option.bind_some, castS]
        exact p4_l1_eq hn hx hl m (k + 1) _ (by omega) (by omega) hV hB
    · rw [if_neg (by rw [decide_eq_true_eq]; omega)]
      exact ⟨l, rfl, hV, hB⟩
theorem p4_l2_eq {n : Nat} (hn : 300 ≤ n) {l : List Nd} (hV : V l) {k : Nat} (hk : 1 ≤ k ∧ k ≤ 4) : ∀ (m t : Nat) (c : Option Nat), t ≤ 3 * k → 3 * k - t < m → ∃ c', p4_l2 n k m t ⟨l.map (tf l k t), c⟩ = some (.inl ⟨l.map (tf l k (3 * k)), c'⟩)
  | 0, t, c, _, h => absurd h (by omega)
  | m + 1, t, c, ht, hm => by
    unfold p4_l2
    rw [ckS (by omega) (by omega), Option.bind_some]
    by_cases hlt : t < 3 * k
    · rw [if_pos (decide_eq_true (show (t : Int) < 3 * (k : Int) by omega)), p12_eq hn (hV.tf k t) (by omega), if_neg (by omega), Option.bind_some, if_neg (by simp), ckS (by omega) (by omega), Option.bind_some, castS, ← tf_succ]
      exact p4_l2_eq hn hV hk m (t + 1) _ (by omega) (by omega)
    · rw [if_neg (by rw [decide_eq_true_eq]; omega)]
      obtain rfl : t = 3 * k := by omega
      exact ⟨c, rfl⟩
theorem p4_l4_eq {n : Nat} (hn : 300 ≤ n) {l : List Nd} {c : Option Nat} (hV : V l) {i : Nat} (hi : i < l.length) : ∀ (m j : Nat) (acc : Bool), j ≤ l.length → l.length - j < m → p4_l4 n ⟨l, c⟩ i m j acc = some (acc || (l.drop j).any fun m => busy m && decide (thr (pa m) (pa l[i])))
  | 0, j, acc, _, h => absurd h (by omega)
  | m + 1, j, acc, hj, hm => by
    have hl := hV.len
    unfold p4_l4
    rw [lenI_mk]
    by_cases hlt : j < l.length
    · have hp := hV.plen _ (List.getElem_mem hi)
      rw [if_pos (decide_eq_true (show (j : Int) < (l.length : Int) by omega)), show idx (⟨l, c⟩ : Sl Nd).xs (j : Int) = some l[j] from idxE hlt, show idx (⟨l, c⟩ : Sl Nd).xs (i : Int) = some l[i] from idxE hi]
      rw [Option.bind_some, Option.bind_some, Option.bind_some, p11_eq hn _ _ (by show (pa l[i]).length ≤ 200; omega), Option.bind_some]
      have e : (if acc = false then (if l[j].2.1 = true then some (decide (thr l[j].1.xs l[i].1.xs)) else some false).bind fun q_114 => some q_114 else some true) = some (acc || (busy l[j] && decide (thr (pa l[j]) (pa l[i])))) := by
        show (if acc = false then (if busy l[j] = true then some (decide (thr (pa l[j]) (pa l[i]))) else some false).bind fun q_114 => some q_114 else some true) = _
        cases acc <;> cases busy l[j] <;> rfl
      rw [e, Option.bind_some, ckS (by omega) (by omega), Option.bind_some, castS, p4_l4_eq hn hV hi m (j + 1) _ (by omega) (by omega), drop_cons hlt, List.any_cons, Bool.or_assoc]
    · rw [if_neg (by rw [decide_eq_true_eq]; omega), List.drop_eq_nil_of_le (by omega), List.any_nil, Bool.or_false]
theorem p4_l3_eq {n : Nat} (hn : 300 ≤ n) {l : List Nd} {c c' : Option Nat} (hV : V l) (h3 : B3 l) {k : Nat} (hk : 1 ≤ k) : ∀ (m i : Nat), i ≤ l.length → l.length - i < m → p4_l3 n ⟨l, c⟩ ⟨l.map (tf l k (3 * k)), c'⟩ m i = some (.inl ())
  | 0, i, _, h => absurd h (by omega)
  | m + 1, i, hi, hm => by
    have hl := hV.len
    unfold p4_l3
    rw [lenI_mk]
    by_cases hlt : i < l.length
    · have him : i < (l.map (tf l k (3 * k))).length := by rw [List.length_map]; exact hlt
      rw [if_pos (decide_eq_true (show (i : Int) < (l.length : Int) by omega)), show idx (⟨l, c⟩ : Sl Nd).xs (i : Int) = some l[i] from idxE hlt, Option.bind_some, show p4_l4 n (⟨l, c⟩ : Sl Nd) (i : Int) n 0 l[i].2.1 = _ from p4_l4_eq hn hV hlt n 0 _ (Nat.zero_le _) (by omega), Option.bind_some, show idx (⟨l.map (tf l k (3 * k)), c'⟩ : Sl Nd).xs (i : Int) = some _ from idxE him, List.getElem_map, Option.bind_some, Option.bind_some, Option.bind_some, List.drop_zero]
      rw [show (l[i].2.1 || l.any fun m => busy m && decide (thr (pa m) (pa l[i]))) = wants l l[i] from rfl]
      rw [show (tf l k (3 * k) l[i]).2.2.2.1 = asl (tf l k (3 * k) l[i]) from rfl, tf_end hV h3 hk (List.getElem_mem hlt), show (tf l k (3 * k) l[i]).2.1 = busy (tf l k (3 * k) l[i]) from rfl, tf_busy, show l[i].2.1 = busy l[i] from rfl]
      have e : ∀ b : Bool, ((!b) == b) = false := by decide
      rw [e, if_pos rfl, beq_self_eq_true, Option.bind_some, Bool.not_true, if_neg (by decide), ckS (by omega) (by omega), Option.bind_some, castS]
      exact p4_l3_eq hn hV h3 hk m (i + 1) (by omega) (by omega)
    · rw [if_neg (by rw [decide_eq_true_eq]; omega)]
theorem p4_law {x : Sl (Int × Int × Bool × Int)} {q : Int} (F : Fine (.sl (.st (.pair (.int .u8) (.pair (.int .u8) (.pair .bool (.int .u8)))))) x) (G1 : InR .u8 q) : p4 6000 x q = some true := by
  have hx : ∀ a ∈ x.xs, okA a := fun a ha => by
    obtain ⟨h1, h2, _, h4⟩ := F.2.2 a ha
    exact ⟨inR_u8.1 h1, inR_u8.1 h2, inR_u8.1 h4⟩
  have hq := inR_u8.1 G1
  unfold p4
  rw [len_def]
  by_cases hg : (x.xs.length : Int) > 30
  · rw [if_pos (decide_eq_true hg), lives4]; rfl
  rw [if_neg (by rw [decide_eq_true_eq]; exact hg), rem8 hq (by decide), Option.bind_some, ckS (by omega) (by omega), Option.bind_some]
  obtain ⟨k, hk, hk4⟩ : ∃ k : Nat, 1 + q % 4 = k ∧ 1 ≤ k ∧ k ≤ 4 := ⟨(1 + q % 4).toNat, by omega, by omega, by omega⟩
  obtain ⟨⟨l, c⟩, h1, h, h3⟩ := p4_l1_eq (n := 6000) (by decide) hx (by omega) 6000 0 ⟨[], some 0⟩ (Nat.zero_le _) (by omega) V.nil (fun x hx => by cases hx)
  have h : V l := h
  have h3 : B3 l := h3
  obtain ⟨c', h2⟩ := p4_l2_eq (n := 6000) (by decide) h hk4 6000 0 c (Nat.zero_le _) (by omega)
  rw [show l.map (tf l k 0) = l from List.map_id l] at h2
  rw [show p4_l1 6000 x 6000 0 ⟨[], some 0⟩ = _ from h1, Option.bind_some, hk, show p4_l2 6000 (k : Int) 6000 0 (⟨l, c⟩ : Sl Nd) = _ from h2, Option.bind_some, lrKl, lenI_mk, lenI_mk, List.length_map, bne_self_eq_false, if_neg (by decide)]
  have hl := h.len
  rw [show p4_l3 6000 (⟨l, c⟩ : Sl Nd) ⟨l.map (tf l k (3 * k)), c'⟩ 6000 0 = _ from p4_l3_eq (n := 6000) (by decide) h h3 hk4.1 6000 0 (Nat.zero_le _) (by omega), Option.bind_some, lrKl, lives4]
  rfl
end Go.Proofs.Ytflieonbbggmhaa
