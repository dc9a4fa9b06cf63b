/- DescriptorsHub in plain words: every hub, all bytes. -/
import Derived.Test.YtojifdijcanbpaaPS13
import Derived.Test.YtojifdijcanbpaaQh2
import Derived.Test.YtojifdijcanbpaaXE16
set_option linter.unusedVariables false
set_option linter.unusedSimpArgs false
namespace Go.Proofs.Ytojifdijcanbpaa
open Go.RowKit

abbrev Hubb : Type := Int × Int × Int × Sl Bool
/-- The bits, by 'or' and by sum. -/
def orF : Nat → Int → List Bool → Int
  | _, a, [] => a
  | i, a, b :: bs => orF (i + 1) (if b = true then bitsI .or .u8 a (IntKind.wrap .u8 (2 * 2 ^ (min i 8))) else a) bs
def adF : Int → Int → List Bool → Int
  | _, a, [] => a
  | w, a, b :: bs => adF (IntKind.wrap .u8 (w * 2)) (if b = true then IntKind.wrap .u8 (a + w) else a) bs
theorem orF_adF : ∀ (l : List Bool), l.length ≤ 7 → (orF 0 0 l = adF 2 0 l ∧ 0 ≤ adF 2 0 l ∧ adF 2 0 l ≤ 255) ∧ adF 2 0 l % 2 = 0 ∧ (l.length = 7 ∨ adF 2 0 l < 2 * 2 ^ l.length)
  | [], _ => by decide
  | [a], _ => by revert a; decide +kernel
  | [a, b], _ => by revert a b; decide +kernel
  | [a, b, c], _ => by revert a b c; decide +kernel
  | [a, b, c, d], _ => by revert a b c d; decide +kernel
  | [a, b, c, d, e], _ => by revert a b c d e; decide +kernel
  | [a, b, c, d, e, f], _ => by revert a b c d e f; decide +kernel
  | [a, b, c, d, e, f, g], _ => by revert a b c d e f g; decide +kernel
  | _ :: _ :: _ :: _ :: _ :: _ :: _ :: _ :: _, h => by simp at h
theorem p27_l1_eq (n : Nat) (x : Hubb) (hL : x.2.2.2.xs.length ≤ 7) : ∀ (m k : Nat) (a : Int), x.2.2.2.xs.length < k + m → k ≤ x.2.2.2.xs.length → p27_l1 n x m k a = some (orF k a (x.2.2.2.xs.drop k))
  | 0, k, a, h, hk => by omega
  | m + 1, k, a, h, hk => by
    unfold p27_l1
    by_cases hlt : k < x.2.2.2.xs.length
    · have ex := List.drop_eq_getElem_cons hlt
      rw [if_pos (by simp [lenI]; omega), idx_nat, List.getElem?_eq_getElem hlt, Option.bind_some, ex]
      have es : shlI .u8 2 (k : Int) = some (IntKind.wrap .u8 (2 * 2 ^ (min k 8))) := by
        unfold shlI
        rw [if_pos (by omega)]
        rfl
      rw [es]
      cases hb : x.2.2.2.xs[k] with
      | true =>
        rw [if_pos rfl, Option.bind_some, Option.bind_some, ck_i64 (by omega), Option.bind_some, show ((k : Int) + 1) = ((k + 1 : Nat) : Int) by simp, p27_l1_eq n x hL m (k + 1) _ (by omega) (by omega)]
        rfl
      | false =>
        rw [if_neg (by decide), Option.bind_some, ck_i64 (by omega), Option.bind_some, show ((k : Int) + 1) = ((k + 1 : Nat) : Int) by simp, p27_l1_eq n x hL m (k + 1) _ (by omega) (by omega)]
        rfl
    · rw [if_neg (by simp [lenI]; omega), List.drop_eq_nil_of_le (by omega)]
      rfl
theorem p28_l1_eq (n : Nat) (x : Hubb) (hL : x.2.2.2.xs.length ≤ 7) : ∀ (m k : Nat) (w a : Int), x.2.2.2.xs.length < k + m → k ≤ x.2.2.2.xs.length → p28_l1 n x m k w a = some (adF w a (x.2.2.2.xs.drop k))
  | 0, k, w, a, h, hk => by omega
  | m + 1, k, w, a, h, hk => by
    unfold p28_l1
    by_cases hlt : k < x.2.2.2.xs.length
    · have ex := List.drop_eq_getElem_cons hlt
      rw [if_pos (by simp [lenI]; omega), idx_nat, List.getElem?_eq_getElem hlt, Option.bind_some, ex]
      cases hb : x.2.2.2.xs[k] with
      | true =>
        rw [if_pos rfl, Option.bind_some, ck_i64 (by omega), Option.bind_some, show ((k : Int) + 1) = ((k + 1 : Nat) : Int) by simp, p28_l1_eq n x hL m (k + 1) _ _ (by omega) (by omega)]
        rfl
      | false =>
        rw [if_neg (by decide), Option.bind_some, ck_i64 (by omega), Option.bind_some, show ((k : Int) + 1) = ((k + 1 : Nat) : Int) by simp, p28_l1_eq n x hL m (k + 1) _ _ (by omega) (by omega)]
        rfl
    · rw [if_neg (by simp [lenI]; omega), List.drop_eq_nil_of_le (by omega)]
      rfl
def hbOk (h : Hubb) : Prop := 1 ≤ h.1 ∧ h.1 ≤ 7 ∧ (h.2.2.2.xs.length : Int) = h.1
instance (h : Hubb) : Decidable (hbOk h) := inferInstanceAs (Decidable (1 ≤ h.1 ∧ h.1 ≤ 7 ∧ (h.2.2.2.xs.length : Int) = h.1))
def hbBytes (h : Hubb) : List Int := [9, 41, h.1, 9, 0, h.2.1, h.2.2.1, adF 2 0 h.2.2.2.xs, 255]
theorem p27_eq (n : Nat) (h : Hubb) (hn : 60 < n) : p27 n h = some (if hbOk h then (⟨hbBytes h, some 9⟩, 0) else (⟨[], some 0⟩, 1)) := by
  unfold p27
  rw [orS, Option.bind_some, orS, Option.bind_some]
  by_cases hk : hbOk h
  · obtain ⟨h1, h2, h3⟩ := id hk
    have hl : h.2.2.2.xs.length ≤ 7 := by omega
    have e : p27_l1 n h n 0 0 = some (orF 0 0 (h.2.2.2.xs.drop 0)) := p27_l1_eq n h hl n 0 0 (by omega) (by omega)
    rw [if_neg (by simp [lenI]; omega), if_pos hk, e, List.drop_zero, (orF_adF _ hl).1.1, Option.bind_some, p41_eq n _ (by simp), Option.bind_some]
    rfl
  · rw [if_pos (by simp only [Bool.or_eq_true, decide_eq_true_eq, bne_iff_ne, lenI]; unfold hbOk at hk; omega), if_neg hk]
theorem p28_eq (n : Nat) (h : Hubb) (hn : 60 < n) : p28 n h = some (if hbOk h then hbBytes h else []) := by
  unfold p28
  rw [orS, Option.bind_some, orS, Option.bind_some]
  by_cases hk : hbOk h
  · obtain ⟨h1, h2, h3⟩ := id hk
    have hl : h.2.2.2.xs.length ≤ 7 := by omega
    have e : p28_l1 n h n 0 2 0 = some (adF 2 0 (h.2.2.2.xs.drop 0)) := p28_l1_eq n h hl n 0 2 0 (by omega) (by omega)
    rw [if_neg (by simp [lenI]; omega), if_pos hk, e, List.drop_zero, Option.bind_some]
    rfl
  · rw [if_pos (by simp only [Bool.or_eq_true, decide_eq_true_eq, bne_iff_ne, lenI]; unfold hbOk at hk; omega), if_neg hk]
def bf (y : Int) (i : Nat) : Bool := bitsI .and .u8 (y.fdiv (2 ^ (min (i + 1) 8))) 1 != 0
def decL (k : Nat) (y : Int) : List Bool := (List.range k).map (bf y)
theorem p50_l1_eq (n : Nat) (s : Sl Int) (y : Int) (hy : s.xs[7]? = some y) (m29 : Nat × Nat) (hm : m29.1 ≤ 7) : ∀ (m k : Nat) (l : List Bool), m29.1 < k + m → k ≤ m29.1 → l.length = m29.1 → l.take k = decL k y → p50_l1 n s m29 m k l = some (decL m29.1 y)
  | 0, k, l, h, hk, _, _ => by omega
  | m + 1, k, l, h, hk, hl, ht => by
    unfold p50_l1
    by_cases hlt : k < m29.1
    · have es : shrI y ((k : Int) + 1) .u8 = some (y.fdiv (2 ^ (min (k + 1) 8))) := by
        unfold shrI
        rw [if_pos (by omega)]
        rfl
      have e7 : idx s.xs 7 = some y := hy
      rw [if_pos (by simp [lenI]; omega), e7, Option.bind_some, ck_i64 (by omega), Option.bind_some, es, Option.bind_some, idx_nat, List.getElem?_eq_getElem (by omega), Option.bind_some, Option.bind_some, show ((k : Int) + 1) = ((k + 1 : Nat) : Int) by simp]
      refine p50_l1_eq n s y hy m29 hm m (k + 1) _ (by omega) (by omega) (by simp [hl]) ?_
      rw [Int.toNat_natCast, List.take_set, show l.take (k + 1) = l.take k ++ [l[k]] from (List.take_append_getElem (by omega)).symm, ht]
      have hdl : (decL k y).length = k := by simp [decL]
      rw [List.set_append_right _ _ (by omega), hdl, Nat.sub_self]
      simp [decL, List.range_succ, bf]
    · have : k = m29.1 := by omega
      rw [if_neg (by simp [lenI]; omega)]
      subst this
      rw [← hl, List.take_length] at ht
      rw [ht, hl]
theorem list9 {α : Type} {l : List α} (h : l.length = 9) : ∃ a b c d e f g i j, l = [a, b, c, d, e, f, g, i, j] := by
  match l, h with
  | [a, b, c, d, e, f, g, i, j], _ => exact ⟨a, b, c, d, e, f, g, i, j, rfl⟩
def hbDec (l : List Int) : Hubb := match l with
  | [_, _, b2, _, _, b5, b6, b7, _] => (b2, b5, b6, ⟨decL (if 7 < b2 then 7 else b2).toNat b7, some (if 7 < b2 then 7 else b2).toNat⟩)
  | _ => (0, 0, 0, ⟨[], some 0⟩)
theorem p50_eq (n : Nat) (s : Sl Int) (hl : s.xs.length = 9) (hB : Byt s.xs) (hn : 60 < n) : p50 n s = some (hbDec s.xs) := by
  obtain ⟨xs, cap⟩ := s
  obtain ⟨b0, b1, b2, b3, b4, b5, b6, b7, b8, rfl⟩ := list9 hl
  have h2 := hB b2 (by simp)
  unfold p50
  simp only
  have e2 : idx [b0, b1, b2, b3, b4, b5, b6, b7, b8] 2 = some b2 := rfl
  have e5 : idx [b0, b1, b2, b3, b4, b5, b6, b7, b8] 5 = some b5 := rfl
  have e6 : idx [b0, b1, b2, b3, b4, b5, b6, b7, b8] 6 = some b6 := rfl
  rw [e2, Option.bind_some, e5, Option.bind_some, e6, Option.bind_some, Option.bind_some]
  have hk : 0 ≤ (if 7 < b2 then 7 else b2) ∧ (if 7 < b2 then 7 else b2) ≤ 7 := by split <;> omega
  rw [mkI_ok hk.1 (Int.le_refl _) (by omega), Option.bind_some]
  have e : p50_l1 n ⟨[b0, b1, b2, b3, b4, b5, b6, b7, b8], cap⟩ ((if 7 < b2 then 7 else b2).toNat, (if 7 < b2 then 7 else b2).toNat) n 0 (List.replicate (if 7 < b2 then 7 else b2).toNat false) = some (decL (if 7 < b2 then 7 else b2).toNat b7) :=
    p50_l1_eq n ⟨[b0, b1, b2, b3, b4, b5, b6, b7, b8], cap⟩ b7 rfl ((if 7 < b2 then 7 else b2).toNat, (if 7 < b2 then 7 else b2).toNat) (by simp only; omega) n 0 _ (by simp only; omega) (by simp only; omega) (by simp) rfl
  rw [e, Option.bind_some]
  rfl
theorem bits_all : ∀ (y : Fin 256) (k : Fin 8), (adF 2 0 (decL k.val (y.val : Int)) = (y.val : Int)) ↔ (y.val % 2 = 0 ∧ (k.val = 7 ∨ y.val < 2 * 2 ^ k.val)) := by decide +kernel
theorem bits_eq {y : Int} {k : Int} (hy : 0 ≤ y ∧ y ≤ 255) (hk : 0 ≤ k ∧ k ≤ 7) : adF 2 0 (decL k.toNat y) = y ↔ (y % 2 = 0 ∧ (k = 7 ∨ y < 2 * 2 ^ k.toNat)) := by
  have := bits_all ⟨y.toNat, by omega⟩ ⟨k.toNat, by omega⟩
  simp only at this
  have e : ((y.toNat : Nat) : Int) = y := by omega
  rw [e] at this
  rw [this]
  have e2 : ((2 * 2 ^ k.toNat : Nat) : Int) = 2 * 2 ^ k.toNat := by simp
  constructor
  · rintro ⟨h1, h2⟩
    refine ⟨by omega, ?_⟩
    rcases h2 with h2 | h2
    · exact .inl (by omega)
    · exact .inr (by rw [← e2]; omega)
  · rintro ⟨h1, h2⟩
    refine ⟨by omega, ?_⟩
    rcases h2 with h2 | h2
    · exact .inl (by omega)
    · exact .inr (by rw [← e2] at h2; omega)
abbrev hb0 : Hubb := (0, 0, 0, ⟨[], some 0⟩)
def hbRead (l : List Int) : Hubb × Int := if l.length ≠ 9 then (hb0, 5) else if hbOk (hbDec l) ∧ hbBytes (hbDec l) = l then (hbDec l, 0) else (hb0, 4)
theorem hbBytes_len (h : Hubb) : (hbBytes h).length = 9 := rfl
theorem p29_eq (n : Nat) (s : Sl Int) (hB : Byt s.xs) (hn : 60 < n) (hn' : n < 1000000) : p29 n s = some (hbRead s.xs) := by
  unfold p29 p49 hbRead
  by_cases hl : s.xs.length = 9
  · have e : (lenI s != 9) = false := by simp [lenI, hl]
    rw [e, p50_eq n s hl hB hn]
    simp only [Bool.false_eq_true, if_false, Option.bind_some, p27_eq n _ hn, hl, ne_eq, not_true_eq_false]
    by_cases hk : hbOk (hbDec s.xs)
    · simp only [if_pos hk, Option.bind_some, hk, true_and]
      rw [p55_eq _ _ (by simp [hbBytes_len]; omega) hn']
      by_cases he : hbBytes (hbDec s.xs) = s.xs <;> simp [he]
    · simp [hk]
  · have e : (lenI s != 9) = true := by simp [lenI]; omega
    rw [e]
    simp [hl]
theorem hbOk_iff {l : List Int} (hB : Byt l) {b0 b1 b2 b3 b4 b5 b6 b7 b8 : Int} (hl : l = [b0, b1, b2, b3, b4, b5, b6, b7, b8]) :
    (hbOk (hbDec l) ∧ hbBytes (hbDec l) = l) ↔ (b0 = 9 ∧ b1 = 41 ∧ b2 > 0 ∧ b2 < 8 ∧ b3 = 9 ∧ b4 = 0 ∧ b7 % 2 = 0 ∧ (b2 = 7 ∨ b7 < 2 * 2 ^ b2.toNat) ∧ b8 = 255) := by
  subst hl
  have h2 := hB b2 (by simp)
  have h7 := hB b7 (by simp)
  have hdl : ∀ k, (decL k b7).length = k := fun k => by simp [decL]
  constructor
  · rintro ⟨⟨k1, k2, k3⟩, hb⟩
    have k1 : 1 ≤ b2 := k1
    have k2 : b2 ≤ 7 := k2
    have e : (if 7 < b2 then 7 else b2) = b2 := if_neg (by omega)
    simp only [hbBytes, hbDec, e, List.cons.injEq, and_true] at hb
    obtain ⟨r0, r1, _, r3, r4, _, _, r7, r8⟩ := hb
    have := (bits_eq (y := b7) (k := b2) h7 ⟨by omega, by omega⟩).1 r7
    exact ⟨r0.symm, r1.symm, by omega, by omega, r3.symm, r4.symm, this.1, this.2, r8.symm⟩
  · rintro ⟨r0, r1, k1, k2, r3, r4, m1, m2, r8⟩
    have e : (if 7 < b2 then 7 else b2) = b2 := if_neg (by omega)
    have r7 := (bits_eq (y := b7) (k := b2) h7 ⟨by omega, by omega⟩).2 ⟨m1, m2⟩
    refine ⟨⟨by show 1 ≤ b2; omega, by show b2 ≤ 7; omega, ?_⟩, ?_⟩
    · simp only [hbDec, e, hdl]
      omega
    · simp only [hbBytes, hbDec, e, r7, r0, r1, r3, r4, r8]
theorem hbDec_bytes (h : Hubb) (hk : hbOk h) (hd : 0 ≤ h.2.1 ∧ h.2.1 ≤ 255) (hc : 0 ≤ h.2.2.1 ∧ h.2.2.1 ≤ 255) : hbRead (hbBytes h) = (hbDec (hbBytes h), 0) ∧ hbOk (hbDec (hbBytes h)) ∧ hbBytes (hbDec (hbBytes h)) = hbBytes h := by
  obtain ⟨k1, k2, k3⟩ := hk
  obtain ⟨⟨_, v1, v2⟩, v3, v4⟩ := orF_adF h.2.2.2.xs (by omega)
  have hB : Byt (hbBytes h) := by
    intro z hz
    simp only [hbBytes, List.mem_cons, List.not_mem_nil, or_false] at hz
    rcases hz with rfl | rfl | rfl | rfl | rfl | rfl | rfl | rfl | rfl <;> omega
  have e : (h.1).toNat = h.2.2.2.xs.length := by omega
  have hok := (hbOk_iff hB (l := hbBytes h) rfl).2 ⟨rfl, rfl, by omega, by omega, rfl, rfl, v3, by
    rw [e]
    rcases v4 with v4 | v4
    · exact .inl (by omega)
    · exact .inr v4, rfl⟩
  refine ⟨?_, hok⟩
  unfold hbRead
  rw [if_neg (by simp [hbBytes_len]), if_pos hok]
theorem p8_ok (n : Nat) (h : Hubb) (s : Sl Int) (hh : (0 ≤ h.1 ∧ h.1 ≤ 255) ∧ (0 ≤ h.2.1 ∧ h.2.1 ≤ 255) ∧ (0 ≤ h.2.2.1 ∧ h.2.2.1 ≤ 255)) (hB : Byt s.xs) (hn : 60 < n) (hn' : n < 1000000) : p8 n h s = some true := by
  unfold p8
  rw [orS, Option.bind_some]
  by_cases h40 : (decide (lenI h.2.2.2 > 20) || decide (lenI s > 40)) = true
  · rw [if_pos h40]
    simp [p11]
  · rw [if_neg h40, p27_eq n h hn, Option.bind_some, p28_eq n h hn, Option.bind_some]
    have first : ∃ e : Int, ∃ a : Sl Int, ∃ t : List Int, (if hbOk h then ((⟨hbBytes h, some 9⟩ : Sl Int), (0 : Int)) else (⟨[], some 0⟩, 1)) = (a, e) ∧ (if hbOk h then hbBytes h else []) = t ∧ p19 n a e t = some true ∧ ∃ u, p29 n a = some u ∧ (e = 0 → u.2 = 0 ∧ hbOk u.1 ∧ hbBytes u.1 = a.xs) := by
      by_cases hk : hbOk h
      · have h19 := p19_ok n (hbBytes h) (by intro h0; cases h0)
        obtain ⟨r1, r2, r3⟩ := hbDec_bytes h hk hh.2.1 hh.2.2
        have hByt : Byt (hbBytes h) := by
          obtain ⟨k1, k2, k3⟩ := hk
          obtain ⟨⟨_, v1, v2⟩, _⟩ := orF_adF h.2.2.2.xs (by omega)
          obtain ⟨_, ⟨_, _⟩, _, _⟩ := hh
          intro z hz
          simp only [hbBytes, List.mem_cons, List.not_mem_nil, or_false] at hz
          rcases hz with rfl | rfl | rfl | rfl | rfl | rfl | rfl | rfl | rfl <;> omega
        exact ⟨0, ⟨hbBytes h, some 9⟩, _, if_pos hk, if_pos hk, h19, _, p29_eq n ⟨hbBytes h, some 9⟩ hByt hn hn', fun _ => by rw [show (⟨hbBytes h, some 9⟩ : Sl Int).xs = hbBytes h from rfl, r1]; exact ⟨rfl, r2, r3⟩⟩
      · exact ⟨1, _, _, if_neg hk, if_neg hk, p19_no n, _, p29_eq n _ (by simp [Byt]) hn hn', fun he => by cases he⟩
    obtain ⟨e, a, t, e1, e2, e3, u, e4, e5⟩ := first
    rw [e1, e2]
    simp only
    rw [e3, Option.bind_some, if_neg (by decide), e4, Option.bind_some]
    have q50 : ∀ f : Bool → Option Bool, ((if (e == 0) = true then (p28 n u.1).bind fun t_54 => (if (!(decide (t_54 = a.xs))) = false then some (u.2 != 0) else some true).bind fun q_59 => some q_59 else some false).bind f) = f false := by
      intro f
      by_cases he : e = 0
      · obtain ⟨u0, u1, u2⟩ := e5 he
        rw [if_pos (by simp [he]), p28_eq n u.1 hn, if_pos u1, Option.bind_some, u2, if_pos (by simp), u0]
        rfl
      · rw [if_neg (by simpa using he)]
        rfl
    rw [q50, if_neg (by decide), p29_eq n s hB hn hn', Option.bind_some]
    by_cases hl : s.xs.length = 9
    · by_cases hok : hbOk (hbDec s.xs) ∧ hbBytes (hbDec s.xs) = s.xs
      · have hR : hbRead s.xs = (hbDec s.xs, 0) := by unfold hbRead; rw [if_neg (by simp [hl]), if_pos hok]
        rw [hR]
        simp only
        rw [if_neg (by decide), p28_eq n _ hn, if_pos hok.1, Option.bind_some, hok.2, if_pos (by simp)]
        obtain ⟨b0, b1, b2, b3, b4, b5, b6, b7, b8, hx⟩ := list9 hl
        have hcap : capO (hbDec s.xs).2.2.2 = some (lenI (hbDec s.xs).2.2.2) := by
          rw [hx]
          simp [hbDec, capO, lenI, decL]
        rw [hcap]
        simp [p11]
      · have hR : hbRead s.xs = (hb0, 4) := by unfold hbRead; rw [if_neg (by simp [hl]), if_neg hok]
        rw [hR]
        simp only
        obtain ⟨xs, cap⟩ := s
        simp only at hl hok hB
        obtain ⟨b0, b1, b2, b3, b4, b5, b6, b7, b8, rfl⟩ := list9 hl
        rw [hbOk_iff hB rfl] at hok
        have h2 := hB b2 (by simp)
        have h7 := hB b7 (by simp)
        have i0 : idx [b0, b1, b2, b3, b4, b5, b6, b7, b8] 0 = some b0 := rfl
        have i1 : idx [b0, b1, b2, b3, b4, b5, b6, b7, b8] 1 = some b1 := rfl
        have i2 : idx [b0, b1, b2, b3, b4, b5, b6, b7, b8] 2 = some b2 := rfl
        have i3 : idx [b0, b1, b2, b3, b4, b5, b6, b7, b8] 3 = some b3 := rfl
        have i4 : idx [b0, b1, b2, b3, b4, b5, b6, b7, b8] 4 = some b4 := rfl
        have i7 : idx [b0, b1, b2, b3, b4, b5, b6, b7, b8] 7 = some b7 := rfl
        have i8 : idx [b0, b1, b2, b3, b4, b5, b6, b7, b8] 8 = some b8 := rfl
        have m7 : remI .u8 b7 2 = some (b7 % 2) := remI_ok h7.1 (by decide) (by simp; omega)
        have L9 : lenI (⟨[b0, b1, b2, b3, b4, b5, b6, b7, b8], cap⟩ : Sl Int) = 9 := rfl
        rw [if_pos (by decide), L9]
        simp only [i0, i1, i2, i3, i4, i7, i8, m7, Option.bind_some]
        clear i0 i1 i2 i3 i4 i7 i8 m7
        by_cases c0 : b0 = 9
        · by_cases c1 : b1 = 41
          · by_cases c2 : b2 > 0
            · by_cases c2' : b2 < 8
              · by_cases c3 : b3 = 9
                · by_cases c4 : b4 = 0
                  · by_cases c5 : b7 % 2 = 0
                    · have sh : shlI .i64 2 b2 = some (2 * 2 ^ b2.toNat) := by
                        have : b2 = 1 ∨ b2 = 2 ∨ b2 = 3 ∨ b2 = 4 ∨ b2 = 5 ∨ b2 = 6 ∨ b2 = 7 := by omega
                        rcases this with rfl | rfl | rfl | rfl | rfl | rfl | rfl <;> rfl
                      by_cases c6 : b2 = 7 ∨ b7 < 2 * 2 ^ b2.toNat
                      · have c8 : ¬ b8 = 255 := fun c8 => hok ⟨c0, c1, c2, c2', c3, c4, c5, c6, c8⟩
                        by_cases c6' : b2 = 7
                        · simp [c0, c1, c6', c3, c4, c5, c8, p22_eq, p11, lenI]
                        · have c6'' := c6.resolve_left c6'
                          simp [sh, c0, c1, c2, c2', c6', c6'', c3, c4, c5, c8, p22_eq, p11, lenI]
                      · have c6' : ¬ b2 = 7 := fun e => c6 (.inl e)
                        have c6'' : ¬ b7 < 2 * 2 ^ b2.toNat := fun e => c6 (.inr e)
                        simp [sh, c0, c1, c2, c2', c6', c6'', c3, c4, c5, p22_eq, p11, lenI]
                    · simp [c0, c1, c2, c2', c3, c4, c5, p22_eq, p11, lenI]
                  · simp [c0, c1, c2, c2', c3, c4, p22_eq, p11, lenI]
                · simp [c0, c1, c2, c2', c3, p22_eq, p11, lenI]
              · simp [c0, c1, c2, c2', p22_eq, p11, lenI]
            · simp [c0, c1, c2, p22_eq, p11, lenI]
          · simp [c0, c1, p22_eq, p11, lenI]
        · simp [c0, p22_eq, p11, lenI]
    · have hR : hbRead s.xs = (hb0, 5) := by unfold hbRead; rw [if_pos hl]
      have hL : (lenI s == 9) = false := by simp [lenI]; omega
      have hL' : ¬ lenI s = 9 := by simp [lenI]; omega
      rw [hR, hL]
      have hl' : ¬ ((s.xs.length : Int) = 9) := by omega
      simp [p22_eq, p11, lenI, hl']
theorem hubIn_of {w : World} {K : Nat → Prop} {v : Value} {x : Hubb} (h : RepV (.st (.pair (.int .u8) (.pair (.int .u8) (.pair (.int .u8) (.sl .bool))))) w K v x) : (0 ≤ x.1 ∧ x.1 ≤ 255) ∧ (0 ≤ x.2.1 ∧ x.2.1 ≤ 255) ∧ (0 ≤ x.2.2.1 ∧ x.2.2.1 ≤ 255) := by
  obtain ⟨h1, h2, h3, _⟩ := (show InR .u8 x.1 ∧ InR .u8 x.2.1 ∧ InR .u8 x.2.2.1 ∧ _ from h.fine)
  exact ⟨inR_u8.1 h1, inR_u8.1 h2, inR_u8.1 h3⟩
end Go.Proofs.Ytojifdijcanbpaa
