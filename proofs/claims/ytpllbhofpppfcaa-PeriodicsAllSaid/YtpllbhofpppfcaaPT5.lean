/- Periods in plain words: the law on the ticks that All yields. Plain theorems, no condition. -/
import Derived.Test.YtpllbhofpppfcaaPT3
set_option linter.unusedVariables false
set_option linter.unusedSimpArgs false
namespace Go.Proofs.Ytpllbhofpppfcaa
open Go.RowKit

def lst (p : Int) : Nat → Int → List Int
  | 0, _ => []
  | k + 1, t => if t < 1048576 then t :: lst p k (t + p) else []
def nx (p q c : Int) : Int := c + (q - c % p + p) % p
theorem nx_le {p q c : Int} (h : Pos p q) : c ≤ nx p q c ∧ nx p q c < c + p := by
  have hp := pos1 h
  have h1 := Int.emod_nonneg (q - c % p + p) (by omega : p ≠ 0)
  have h2 := Int.emod_lt_of_pos (q - c % p + p) (by omega : 0 < p)
  unfold nx; omega
theorem nx_hit {p q c : Int} (h : Pos p q) (hc : c % p = q) : nx p q c = c ∧ nx p q (c + 1) = c + p := by
  obtain ⟨hp, h1, h2⟩ := h
  unfold nx
  rcases l9 hp with rfl | rfl | rfl | rfl | rfl | rfl | rfl | rfl | rfl <;> omega
theorem nx_miss {p q c : Int} (h : Pos p q) (hc : ¬ c % p = q) : nx p q (c + 1) = nx p q c := by
  obtain ⟨hp, h1, h2⟩ := h
  unfold nx
  rcases l9 hp with rfl | rfl | rfl | rfl | rfl | rfl | rfl | rfl | rfl <;> omega
theorem nx_mod {p q c : Int} (h : Pos p q) : nx p q c % p = q := by
  obtain ⟨hp, h1, h2⟩ := h
  unfold nx
  rcases l9 hp with rfl | rfl | rfl | rfl | rfl | rfl | rfl | rfl | rfl <;> omega
def fy (many : Int) := rnd (p26_r1 6000 (Nat × List Int) (rnd (p15_r1 6000 many)))
theorem fy_big {many t : Int} {acc : List Int} (ht : 1048576 ≤ t) : fy many (0, (0, acc)) t = some (false, (1, (0, acc))) := by
  show ((p26_r1 6000 (Nat × List Int) (rnd (p15_r1 6000 many)) (0, acc) t).map _) = _
  unfold p26_r1
  rw [if_neg (by rw [decide_eq_true (show t ≥ 1048576 from ht)]; decide), Option.bind_some, if_pos rfl]
  rfl
theorem fy_last {many t : Int} {acc : List Int} (ht : t < 1048576) (hl : (acc.length : Int) + 1 = many) (hm : many ≤ 20) : fy many (0, (0, acc)) t = some (false, (1, (1, acc ++ [t]))) := by
  have e : p15_r1 6000 many acc t = some (1, acc ++ [t]) := by
    unfold p15_r1
    rw [appI_ok (by simp; omega), Option.bind_some, if_pos (by simp [lenI]; omega)]
  show ((p26_r1 6000 (Nat × List Int) (rnd (p15_r1 6000 many)) (0, acc) t).map _) = _
  unfold p26_r1
  rw [if_pos (by rw [decide_eq_false (show ¬ t ≥ 1048576 by omega)]), show rnd (p15_r1 6000 many) (0, acc) t = (p15_r1 6000 many acc t).map _ from rfl, e]
  rfl
theorem fy_on {many t : Int} {acc : List Int} (ht : t < 1048576) (hl : (acc.length : Int) + 1 < many) (hm : many ≤ 20) : fy many (0, (0, acc)) t = some (true, (0, (0, acc ++ [t]))) := by
  have e : p15_r1 6000 many acc t = some (0, acc ++ [t]) := by
    unfold p15_r1
    rw [appI_ok (by simp; omega), Option.bind_some, if_neg (by simp [lenI]; omega)]
  show ((p26_r1 6000 (Nat × List Int) (rnd (p15_r1 6000 many)) (0, acc) t).map _) = _
  unfold p26_r1
  rw [if_pos (by rw [decide_eq_false (show ¬ t ≥ 1048576 by omega)]), show rnd (p15_r1 6000 many) (0, acc) t = (p15_r1 6000 many acc t).map _ from rfl, e]
  rfl
theorem p29_l1_ok {p : Int} {many : Nat} (hp : 1 ≤ p ∧ p ≤ 256) (hm : many ≤ 20) : ∀ (m : Nat) (t : Int) (acc : List Int), acc.length < many → many < acc.length + m → 0 ≤ t → t ≤ 1049000 → ∃ c, p29_l1 6000 _ p (fy many) m t (0, (0, acc)) = some (1, (c, acc ++ lst p (many - acc.length) t))
  | 0, t, acc, h1, h2, _, _ => absurd h2 (by omega)
  | m + 1, t, acc, h1, h2, h3, h4 => by
    unfold p29_l1
    obtain ⟨r, hr⟩ : ∃ r, many - acc.length = r + 1 := ⟨many - acc.length - 1, by omega⟩
    rw [hr]
    unfold lst
    by_cases ht : t < 1048576
    · rw [if_pos ht]
      by_cases hl : acc.length + 1 = many
      · rw [fy_last ht (by omega) (by omega), Option.bind_some]
        refine ⟨1, ?_⟩
        rw [show r = 0 by omega]; rfl
      · rw [fy_on ht (by omega) (by omega), Option.bind_some]
        dsimp only
        rw [if_pos rfl, ck_i64 (by omega), Option.bind_some]
        obtain ⟨c, hc⟩ := p29_l1_ok hp hm m (t + p) (acc ++ [t]) (by simp; omega) (by simp; omega) (by omega) (by omega)
        refine ⟨c, ?_⟩
        rw [hc, List.length_append, show many - (acc.length + [t].length) = r by simp; omega, List.append_assoc]; rfl
    · rw [if_neg ht, fy_big (by omega), Option.bind_some]
      exact ⟨0, by simp⟩
theorem lst_big {p : Int} : ∀ (k : Nat) {t : Int}, 1048576 ≤ t → lst p k t = []
  | 0, _, _ => rfl
  | k + 1, t, h => if_neg (by omega)
theorem p15_eq (p q a : Int) (many : Nat) (hm : many ≤ 20) : ∃ c, p15 6000 p q a many = some ⟨if Pos p q then lst p many (nx p q (mx a)) else [], c⟩ := by
  unfold p15
  by_cases h0 : many = 0
  · subst h0
    refine ⟨some 0, ?_⟩
    rw [if_pos (show (((0 : Nat) : Int) == 0) = true from rfl)]
    by_cases hP : Pos p q <;> simp [hP, lst]
  · rw [if_neg (by simpa using h0)]
    unfold p24
    rw [Option.bind_some]
    dsimp only
    unfold p26
    rw [p23_eq]
    refine ⟨.none, ?_⟩
    by_cases hP : Pos p q
    · have hp := pos1 hP
      rw [decide_eq_true hP, if_pos hP, Option.bind_some, if_pos (show (!true) = false from rfl), Option.bind_some]
      by_cases ha : a ≥ 1048576
      · rw [if_pos (decide_eq_true ha), Option.bind_some, lst_big many (by have := nx_le (c := mx a) hP; rw [mx_of (by omega)] at this ⊢; omega)]
      · rw [if_neg (by rw [decide_eq_true_eq]; exact ha)]
        have e : (if 0 > a then 0 else a) = mx a := rfl
        have m0 := mx0 a
        have m1 : mx a < 1048576 := by unfold mx; split <;> omega
        have r1 := Int.emod_nonneg (mx a) (by omega : p ≠ 0)
        have r2 := Int.emod_lt_of_pos (mx a) (by omega : 0 < p)
        have q1 := hP.2.1
        have q2 := hP.2.2
        have n1 := nx_le (c := mx a) hP
        have e28 : p28 6000 p q a = some (nx p q (mx a)) := by
          unfold p28
          unfold nx at n1
          rw [e, remS (by omega) (by omega) (by omega), Option.bind_some, ck_i64 (by omega), Option.bind_some, ck_i64 (by omega), Option.bind_some, remS (by omega) (by omega) (by omega), Option.bind_some, ck_i64 (by omega), Option.bind_some]
          rfl
        rw [e28, Option.bind_some]
        unfold p27
        rw [Option.bind_some]
        dsimp only
        unfold p29
        obtain ⟨c, hc⟩ := p29_l1_ok hp hm 6000 (nx p q (mx a)) [] (by simp; omega) (by simp; omega) (by omega) (by omega)
        have hc' : p29_l1 6000 (Nat × Nat × List Int) p (rnd (p26_r1 6000 (Nat × List Int) (rnd (p15_r1 6000 many)))) 6000 (nx p q (mx a)) (0, 0, []) = some (1, c, [] ++ lst p (many - 0) (nx p q (mx a))) := hc
        rw [hc', Option.bind_some, Option.bind_some]
        rfl
    · rw [decide_eq_false hP, if_neg hP, Option.bind_some]; rfl
theorem lst_len {p : Int} : ∀ (k : Nat) (t : Int), (lst p k t).length ≤ k
  | 0, _ => Nat.le_refl _
  | k + 1, t => by
    unfold lst
    split
    · simpa using lst_len k (t + p)
    · simp
theorem p6_l1_ok {p q : Int} {many : Nat} (s : Sl Int) (hP : Pos p q) (hm : many ≤ 20) : ∀ (m : Nat) (c : Int) (k : Nat), 0 ≤ c → k ≤ many → c ≤ 1048576 ∨ k = many ∨ s.xs.length = k → s.xs.drop k = lst p (many - k) (nx p q c) → k ≤ s.xs.length → (k < many → nx p q c - c + (many - k - 1) * 256 + 1 < m) → (1 : Int) ≤ m → c ≤ 9223372036854770000 → p6_l1 6000 p q many s m c k = some (.inl (s.xs.length : Int))
  | 0, c, k, _, _, _, _, _, _, h, _ => absurd h (by omega)
  | m + 1, c, k, h0, hk, hx, hd, hl, hf, _, hbig => by
    have hp := pos1 hP
    have nl := nx_le (c := c) hP
    unfold p6_l1
    by_cases hc : c < 1048576 ∧ k < many
    · obtain ⟨r, hr⟩ : ∃ r, many - k = r + 1 := ⟨many - k - 1, by omega⟩
      have hf' := hf hc.2
      have hm1 : (1 : Int) ≤ m := by have : (0 : Int) ≤ (many - k - 1) * 256 := by omega
                                     push_cast at hf'; omega
      rw [if_pos (decide_eq_true hc.1), Option.bind_some, if_pos (by simp; omega), remS h0 (by omega) (by omega), Option.bind_some]
      by_cases hd1 : c % p = q
      · obtain ⟨n1, n2⟩ := nx_hit hP hd1
        rw [hr, n1] at hd
        unfold lst at hd
        rw [if_pos hc.1] at hd
        have hlt : k < s.xs.length := by
          rcases Nat.lt_or_ge k s.xs.length with h | h
          · exact h
          · rw [List.drop_eq_nil_of_le h] at hd; cases hd
        have hg : s.xs[k]? = some c := by
          have h_ : (s.xs.drop k)[0]? = some c := by rw [hd]; rfl
          rw [List.getElem?_drop] at h_; simpa using h_
        have hd2 : s.xs.drop (k + 1) = lst p r (c + p) := by rw [← List.drop_drop, hd]; rfl
        rw [if_pos (by simpa using hd1), if_pos (by simp [lenI]; omega), idx_nat, hg, Option.bind_some, show (c != c) = false by simp, Option.bind_some, if_neg (by decide), ck_i64 (by omega), Option.bind_some, Option.bind_some]
        show Option.bind _ _ = _
        rw [ck_i64 (by omega), Option.bind_some, show ((k : Int) + 1) = ((k + 1 : Nat) : Int) by simp]
        refine p6_l1_ok s hP hm m (c + 1) (k + 1) (by omega) (by omega) (.inl (by omega)) (by rw [hd2, n2, show many - (k + 1) = r by omega]) (by omega) (fun h => ?_) hm1 (by omega)
        rw [n2]; push_cast at hf' ⊢; omega
      · have n1 := nx_miss hP hd1
        rw [if_neg (by simpa using hd1), Option.bind_some]
        show Option.bind _ _ = _
        rw [ck_i64 (by omega), Option.bind_some]
        refine p6_l1_ok s hP hm m (c + 1) k (by omega) (by omega) (.inl (by omega)) (by rw [n1]; exact hd) (by omega) (fun h => ?_) hm1 (by omega)
        rw [n1]; push_cast at hf' ⊢; omega
    · have hs : s.xs.length = k := by
        by_cases h1 : k < many
        · have : 1048576 ≤ c := by omega
          rw [lst_big _ (by omega)] at hd
          have := List.drop_eq_nil_iff.1 hd
          omega
        · rw [show many - k = 0 by omega] at hd
          have := List.drop_eq_nil_iff.1 (show s.xs.drop k = [] from hd)
          omega
      by_cases h1 : c < 1048576
      · rw [if_pos (decide_eq_true h1), Option.bind_some, if_neg (by simp; omega), hs]
      · rw [if_neg (by rw [decide_eq_true_eq]; exact h1), Option.bind_some, if_neg (by decide), hs]
theorem p6_l2_ok (xs : List Int) (c d : Option Nat) : ∀ (m k : Nat), xs.length < k + m → k ≤ xs.length → xs.length ≤ 20 → p6_l2 6000 ⟨xs, c⟩ xs.length ⟨xs, d⟩ m k = some (.inl ())
  | 0, k, h, hk, _ => absurd h (by omega)
  | m + 1, k, h, hk, h20 => by
    unfold p6_l2
    by_cases hlt : k < xs.length
    · rw [if_pos (by simp; omega), idx_nat, List.getElem?_eq_getElem hlt, Option.bind_some, Option.bind_some, show (xs[k] != xs[k]) = false by simp, if_neg (by decide), ck_i64 (by omega), Option.bind_some, show ((k : Int) + 1) = ((k + 1 : Nat) : Int) by simp, p6_l2_ok xs c d m (k + 1) (by omega) (by omega) h20]
    · rw [if_neg (by simp; omega)]
theorem p6_ok {p q a b : Int} (hb : InR .i64 b) (ha : InR .i64 a) : p6 6000 p q [a, b] = some true := by
  obtain ⟨many, hm, hmany⟩ : ∃ many : Nat, many ≤ 20 ∧ ((remI .i64 b 20).bind fun x => (if decide (x < 0) = true then (ckI .i64 (0 - x)).bind fun y => some y else some x)) = some (many : Int) := by
    have h1 := Int.tmod_lt_of_pos b (show (0 : Int) < 20 by decide)
    have h2 := Int.lt_tmod_of_pos b (show (0 : Int) < 20 by decide)
    unfold remI
    rw [if_neg (by decide), ck_i64 (by omega), Option.bind_some]
    by_cases h : b.tmod 20 < 0
    · exact ⟨(0 - b.tmod 20).toNat, by omega, by rw [if_pos (decide_eq_true h), ck_i64 (by omega), Option.bind_some]; congr 1; omega⟩
    · exact ⟨(b.tmod 20).toNat, by omega, by rw [if_neg (by rw [decide_eq_true_eq]; exact h)]; congr 1; omega⟩
  obtain ⟨x8, hx8, hm2⟩ := bindS hmany
  obtain ⟨c, hc⟩ := p15_eq p q a many hm
  unfold p6
  rw [show idx [a, b] 1 = some b from rfl, Option.bind_some, hx8, Option.bind_some, hm2, Option.bind_some, show idx [a, b] 0 = some a from rfl, Option.bind_some, hc, Option.bind_some, Option.bind_some]
  have ej : (if decide (a < 0) = true then some 0 else some a) = some (mx a) := by
    by_cases h : a < 0
    · rw [if_pos (decide_eq_true h), mx_lt h]
    · rw [if_neg (by rw [decide_eq_true_eq]; exact h), mx_of (by omega)]
  have hai := inR_i64.1 ha
  rw [ej, Option.bind_some, p11_eq, Option.bind_some]
  have main : ∀ (xs : List Int), xs.length ≤ 20 → ((if (lenI (⟨xs, c⟩ : Sl Int) != (xs.length : Int)) = false then some (lenI (⟨xs, c⟩ : Sl Int) != (xs.length : Int)) else some true).bind fun q_76 => if q_76 then (some false) else (p6_l2 6000 ⟨xs, c⟩ xs.length ⟨xs, c⟩ 6000 0).bind fun y_82 => lrK y_82 some fun s_83 => (p10 6000).bind fun t_159 => some t_159) = some true := by
    intro xs hxs
    rw [show (lenI (⟨xs, c⟩ : Sl Int) != (xs.length : Int)) = false by simp [lenI], if_pos rfl, Option.bind_some, if_neg (by decide), show (0 : Int) = ((0 : Nat) : Int) from rfl, p6_l2_ok xs c c 6000 0 (by omega) (by omega) hxs, Option.bind_some, lrKl, p10_ok]; rfl
  by_cases hP : Pos p q
  · have hp := pos1 hP
    have m0 := mx0 a
    have nl := nx_le (c := mx a) hP
    rw [decide_eq_true hP, if_pos rfl]
    rw [if_pos hP] at hc ⊢
    have hll := lst_len (p := p) many (nx p q (mx a))
    have hmx : mx a ≤ 9223372036854775807 := by unfold mx; split <;> omega
    have hl1 : p6_l1 6000 p q many ⟨lst p many (nx p q (mx a)), c⟩ 6000 (mx a) 0 = some (.inl ((lst p many (nx p q (mx a))).length : Int)) := by
      by_cases hbg : mx a < 1048576
      · rw [show (0 : Int) = ((0 : Nat) : Int) from rfl]
        exact p6_l1_ok (⟨lst p many (nx p q (mx a)), c⟩ : Sl Int) hP hm 6000 (mx a) 0 m0 (by omega) (.inl (by omega)) rfl (Nat.zero_le _) (fun h => by omega) (by decide) (by omega)
      · unfold p6_l1
        rw [if_neg (by rw [decide_eq_true_eq]; exact hbg), Option.bind_some, if_neg (by decide), lst_big many (by omega)]; rfl
    rw [hl1, Option.bind_some]
    rw [lrKl]
    rw [Option.bind_some, lrKl, Option.bind_some, hc, Option.bind_some]
    exact main _ (show (lst p many (nx p q (mx a))).length ≤ 20 by omega)
  · rw [decide_eq_false hP, if_neg (by decide)]
    rw [if_neg hP] at hc ⊢
    rw [Option.bind_some, lrKl, Option.bind_some, hc, Option.bind_some]
    exact main [] (by simp)
theorem p6_law {x0 x1 : Int} {x2 : List Int} (h0 : InR .i64 x0) (h1 : InR .i64 x1) (h2 : Fine (.arr 2 (.int .i64)) x2) : p6 6000 x0 x1 x2 = some true := by
  obtain ⟨a, b, rfl, ha, hb⟩ := arr2 h2
  exact p6_ok hb ha
end Go.Proofs.Ytpllbhofpppfcaa
