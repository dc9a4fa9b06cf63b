/- DescriptorsConfiguration in plain words: every configuration, all bytes. -/
import Derived.Test.YtojifdijcanbpaaPS13
import Derived.Test.YtojifdijcanbpaaQc2
set_option linter.unusedVariables false
set_option linter.unusedSimpArgs false
namespace Go.Proofs.Ytojifdijcanbpaa
open Go.RowKit

abbrev cfT : GT := .pair (.int .u16) (.pair (.int .u8) (.pair (.int .u8) (.pair (.int .u8) (.pair .bool (.pair .bool (.int .u8))))))
abbrev Cfg : Type := Int × Int × Int × Int × Bool × Bool × Int
def CfIn (c : Cfg) : Prop := (0 ≤ c.1 ∧ c.1 ≤ 65535) ∧ (0 ≤ c.2.1 ∧ c.2.1 ≤ 255) ∧ (0 ≤ c.2.2.1 ∧ c.2.2.1 ≤ 255) ∧ (0 ≤ c.2.2.2.1 ∧ c.2.2.2.1 ≤ 255) ∧ (0 ≤ c.2.2.2.2.2.2 ∧ c.2.2.2.2.2.2 ≤ 255)
theorem cfIn_of {w : World} {K : Nat → Prop} {v : Value} {c : Cfg} (h : RepV (.st cfT) w K v c) : CfIn c := by
  obtain ⟨cs, ⟨c1, r1, _, h1, c2, r2, _, h2, c3, r3, _, h3, c4, r4, _, h4, c5, r5, _, h5, c6, r6, _, h6, h7⟩, _⟩ := h
  exact ⟨inR_u16.1 h1.2, inR_u8.1 h2.2, inR_u8.1 h3.2, inR_u8.1 h4.2, inR_u8.1 h7.2⟩
def cfOk (c : Cfg) : Bool := decide (9 ≤ c.1 ∧ c.1 ≤ 4096 ∧ 1 ≤ c.2.1 ∧ c.2.1 ≤ 16 ∧ 1 ≤ c.2.2.1 ∧ c.2.2.2.2.2.2 ≤ 250)
theorem cfOk_iff (c : Cfg) : cfOk c = true ↔ (9 ≤ c.1 ∧ c.1 ≤ 4096 ∧ 1 ≤ c.2.1 ∧ c.2.1 ≤ 16 ∧ 1 ≤ c.2.2.1 ∧ c.2.2.2.2.2.2 ≤ 250) := decide_eq_true_iff
def cfAtt (a b : Bool) : Int := 128 + (if a then 64 else 0) + if b then 32 else 0
def cfBytes (c : Cfg) : List Int := [9, 2, c.1 % 256, c.1 / 256, c.2.1, c.2.2.1, c.2.2.2.1, cfAtt c.2.2.2.2.1 c.2.2.2.2.2.1, c.2.2.2.2.2.2]
theorem cfQ (c : Cfg) : (decide (c.1 < 9) || (decide (c.1 > 4096)) || decide (c.2.1 < 1) || decide (c.2.1 > 16) || decide (c.2.2.1 < 1) || decide (c.2.2.2.2.2.2 > 250)) = !cfOk c := by
  unfold cfOk
  rw [Bool.eq_iff_iff]
  simp only [Bool.or_eq_true, decide_eq_true_eq, Bool.not_eq_true', decide_eq_false_iff_not]
  omega
theorem orA : bitsI .or .u8 128 64 = 192 := by decide +kernel
theorem orB : bitsI .or .u8 192 32 = 224 := by decide +kernel
theorem orC : bitsI .or .u8 128 32 = 160 := by decide +kernel
theorem p18_eq (n : Nat) (c : Cfg) (h : CfIn c) : p18 n c = some (if cfOk c = true then (⟨cfBytes c, some 9⟩, 0) else (⟨[], some 0⟩, 1)) := by
  unfold p18
  simp only [orS, Option.bind_some, cfQ]
  obtain ⟨t, k, v, x, a, b, p⟩ := c
  cases hk : cfOk (t, k, v, x, a, b, p)
  · simp
  · cases a <;> cases b <;> simp [p42_eq, p43_eq n h.1, orA, orB, orC, p41_eq, cfBytes, cfAtt]
theorem p20_eq (n : Nat) (c : Cfg) (h : CfIn c) : p20 n c = some (if cfOk c = true then cfBytes c else []) := by
  unfold p20
  simp only [orS, Option.bind_some, cfQ]
  obtain ⟨t, k, v, x, a, b, p⟩ := c
  cases hk : cfOk (t, k, v, x, a, b, p)
  · simp
  · have h1 : (0 ≤ t ∧ t ≤ 65535) := h.1
    cases a <;> cases b <;> simp only [Bool.not_true, Bool.false_eq_true, if_false, if_true, Option.bind_some, wrap_u8] <;> rw [p38_eq n h1, Option.bind_some, catS_le (by simp), Option.bind_some, catS_le (by simp), Option.bind_some] <;> rfl

def cfDec (l : List Int) : Cfg := match l with
  | [_, _, b2, b3, b4, b5, b6, b7, b8] => (b2 + 256 * b3, b4, b5, b6, bitsI .and .u8 b7 64 != 0, bitsI .and .u8 b7 32 != 0, b8)
  | _ => (0, 0, 0, 0, false, false, 0)
theorem list9 {α : Type} {l : List α} (h : l.length = 9) : ∃ a b c d e f g i j, l = [a, b, c, d, e, f, g, i, j] := by
  match l, h with
  | [a, b, c, d, e, f, g, i, j], _ => exact ⟨a, b, c, d, e, f, g, i, j, rfl⟩
theorem p45_eq (n : Nat) (s : Sl Int) (hl : s.xs.length = 9) (hB : Byt s.xs) : p45 n s = some (cfDec s.xs) := by
  obtain ⟨xs, cap⟩ := s
  obtain ⟨b0, b1, b2, b3, b4, b5, b6, b7, b8, rfl⟩ := list9 hl
  unfold p45
  have h46 := p46_eq n 2 (x := b2) (y := b3) ⟨[b0, b1, b2, b3, b4, b5, b6, b7, b8], cap⟩ rfl rfl (by decide) (hB b2 (by simp)) (hB b3 (by simp))
  rw [show (2 : Int) = ((2 : Nat) : Int) from rfl, h46]
  simp [idx, cfDec]
theorem att_iff {y : Int} (h : 0 ≤ y ∧ y ≤ 255) : cfAtt (bitsI .and .u8 y 64 != 0) (bitsI .and .u8 y 32 != 0) = y ↔ 128 ≤ y ∧ y % 32 = 0 := by
  have key : ∀ k : Fin 256, cfAtt (bitsI .and .u8 (k.val : Int) 64 != 0) (bitsI .and .u8 (k.val : Int) 32 != 0) = (k.val : Int) ↔ 128 ≤ (k.val : Int) ∧ (k.val : Int) % 32 = 0 := by decide +kernel
  have := key ⟨y.toNat, by omega⟩
  rwa [show (((⟨y.toNat, by omega⟩ : Fin 256)).val : Int) = y by show ((y.toNat : Nat) : Int) = y; omega] at this
theorem att_back (a b : Bool) : (bitsI .and .u8 (cfAtt a b) 64 != 0) = a ∧ (bitsI .and .u8 (cfAtt a b) 32 != 0) = b := by cases a <;> cases b <;> decide +kernel
theorem cfDec_bytes (c : Cfg) (h : CfIn c) : cfDec (cfBytes c) = c := by
  obtain ⟨t, k, v, x, a, b, p⟩ := c
  have := h.1
  simp only [cfBytes, cfDec, (att_back a b).1, (att_back a b).2, Prod.mk.injEq, and_true]
  omega
theorem cfBytes_byt (c : Cfg) (h : CfIn c) : Byt (cfBytes c) := by
  obtain ⟨t, k, v, x, a, b, p⟩ := c
  obtain ⟨h1, h2, h3, h4, h5⟩ := h
  simp only at h1 h2 h3 h4 h5
  intro z hz
  simp only [cfBytes, List.mem_cons, List.not_mem_nil, or_false] at hz
  have hat : 0 ≤ cfAtt a b ∧ cfAtt a b ≤ 255 := by cases a <;> cases b <;> decide
  rcases hz with rfl | rfl | rfl | rfl | rfl | rfl | rfl | rfl | rfl <;> omega
theorem cfDec_in (l : List Int) (hl : l.length = 9) (hB : Byt l) : CfIn (cfDec l) := by
  obtain ⟨b0, b1, b2, b3, b4, b5, b6, b7, b8, rfl⟩ := list9 hl
  have h2 := hB b2 (by simp)
  have h3 := hB b3 (by simp)
  exact ⟨⟨by show 0 ≤ b2 + 256 * b3; omega, by show b2 + 256 * b3 ≤ 65535; omega⟩, hB b4 (by simp), hB b5 (by simp), hB b6 (by simp), hB b8 (by simp)⟩
def cfRead (l : List Int) : Cfg × Int := if l.length ≠ 9 then ((0, 0, 0, 0, false, false, 0), 5) else if cfOk (cfDec l) = true ∧ cfBytes (cfDec l) = l then (cfDec l, 0) else ((0, 0, 0, 0, false, false, 0), 4)
theorem p21_eq (n : Nat) (s : Sl Int) (hB : Byt s.xs) (hn : 60 < n) (hn' : n < 1000000) : p21 n s = some (cfRead s.xs) := by
  unfold p21 p44 cfRead
  by_cases hl : s.xs.length = 9
  · have e : (lenI s != 9) = false := by simp [lenI, hl]
    have hin := cfDec_in s.xs hl hB
    rw [e, p45_eq n s hl hB]
    simp only [Bool.false_eq_true, if_false, Option.bind_some, p18_eq n _ hin, hl, ne_eq, not_true_eq_false]
    cases hk : cfOk (cfDec s.xs)
    · simp
    · simp only [if_true, Option.bind_some, true_and]
      rw [p55_eq _ _ (by simp [cfBytes]; omega) hn']
      by_cases he : cfBytes (cfDec s.xs) = s.xs <;> simp [he]
  · have e : (lenI s != 9) = true := by simp [lenI]; omega
    rw [e]
    simp [hl]
theorem cf_is (b0 b1 b2 b3 b4 b5 b6 b7 b8 : Int) (hB : Byt [b0, b1, b2, b3, b4, b5, b6, b7, b8]) : ((b0 == 9) && (b1 == 2) && decide (b2 + 256 * b3 ≥ 9) && decide (b2 + 256 * b3 ≤ 4096) && decide (b4 > 0) && decide (b4 < 17) && decide (b5 > 0) && decide (b7 ≥ 128) && (b7 % 32 == 0) && decide (b8 < 251)) = true ↔
    cfOk (cfDec [b0, b1, b2, b3, b4, b5, b6, b7, b8]) = true ∧ cfBytes (cfDec [b0, b1, b2, b3, b4, b5, b6, b7, b8]) = [b0, b1, b2, b3, b4, b5, b6, b7, b8] := by
  have h2 := hB b2 (by simp)
  have h3 := hB b3 (by simp)
  have hat := att_iff (hB b7 (by simp))
  simp only [cfOk_iff, cfDec, cfBytes, Bool.and_eq_true, decide_eq_true_eq, beq_iff_eq, List.cons.injEq, and_true, hat]
  have d1 : (b2 + 256 * b3) % 256 = b2 := by omega
  have d2 : (b2 + 256 * b3) / 256 = b3 := by omega
  rw [d1, d2]
  constructor
  · rintro ⟨⟨⟨⟨⟨⟨⟨⟨⟨q0, q1⟩, q2⟩, q3⟩, q4⟩, q5⟩, q6⟩, q7⟩, q8⟩, q9⟩
    exact ⟨⟨q2, q3, by omega, by omega, by omega, by omega⟩, q0.symm, q1.symm, rfl, rfl, trivial, trivial, trivial, q7, q8⟩
  · rintro ⟨⟨q2, q3, q4, q5, q6, q9⟩, q0, q1, _, _, _, _, _, q7, q8⟩
    exact ⟨⟨⟨⟨⟨⟨⟨⟨⟨q0.symm, q1.symm⟩, q2⟩, q3⟩, by omega⟩, by omega⟩, by omega⟩, q7⟩, q8⟩, by omega⟩
theorem p6_ok (n : Nat) (c : Cfg) (s : Sl Int) (h : CfIn c) (hB : Byt s.xs) (hn : 60 < n) (hn' : n < 1000000) : p6 n c s = some true := by
  unfold p6
  by_cases h40 : lenI s > 40
  · simp [h40, p11]
  · rw [if_neg (by simpa using h40), p18_eq n c h, p20_eq n c h]
    have first : ∃ e : Int, ∃ a : Sl Int, ∃ t : List Int, (if cfOk c = true then ((⟨cfBytes c, some 9⟩ : Sl Int), (0 : Int)) else (⟨[], some 0⟩, 1)) = (a, e) ∧ (if cfOk c = true then cfBytes c else []) = t ∧ p19 n a e t = some true ∧ ∃ u, p21 n a = some u ∧ (e = 0 → u = (c, 0)) := by
      cases hk : cfOk c
      · refine ⟨1, _, _, rfl, rfl, p19_no n, _, p21_eq n _ (by simp [Byt]) hn hn', fun he => by cases he⟩
      · refine ⟨0, _, _, rfl, rfl, p19_ok n (cfBytes c) (by simp [cfBytes]), _, p21_eq n _ (cfBytes_byt c h) hn hn', fun _ => ?_⟩
        simp [cfRead, cfDec_bytes c h, hk]
        simp [cfBytes]
    obtain ⟨e, a, t, e1, e2, e3, u, e4, e5⟩ := first
    simp only [e1, e2, Option.bind_some, e3, Bool.not_true, Bool.false_eq_true, if_false, e4, orS, andS]
    have eq : (e == 0 && (!eqP (.pair (.int .u16) (.pair (.int .u8) (.pair (.int .u8) (.pair (.int .u8) (.pair .bool (.pair .bool (.int .u8))))))) u.1 c || u.2 != 0)) = false := by
      by_cases he : e = 0
      · have hc : eqP cfT c c = true := (eqP_iff (t := cfT) (by rfl) c c).2 rfl
        rw [e5 he]
        simp only [hc]
        simp
      · simp [he]
    rw [eq]
    simp only [Bool.false_eq_true, if_false]
    rw [p21_eq n s hB hn hn']
    simp only [Option.bind_some, p11, p22_eq]
    by_cases hl : s.xs.length = 9
    · obtain ⟨b0, b1, b2, b3, b4, b5, b6, b7, b8, hs⟩ := list9 hl
      have key := cf_is b0 b1 b2 b3 b4 b5 b6 b7 b8 (hs ▸ hB)
      have hL : (lenI s == 9) = true := by simp [lenI, hl]
      have hL' : lenI s = 9 := by simp [lenI, hl]
      have h2 := hB b2 (by simp [hs])
      have h3 := hB b3 (by simp [hs])
      have h7 := hB b7 (by simp [hs])
      rw [← hs] at key
      by_cases hok : cfOk (cfDec s.xs) = true ∧ cfBytes (cfDec s.xs) = s.xs
      · have hR : cfRead s.xs = (cfDec s.xs, 0) := by unfold cfRead; rw [if_neg (by simp [hl]), if_pos hok]
        have hin := cfDec_in s.xs hl hB
        rw [hR]
        simp [p20_eq n _ hin, hok.1, hok.2]
      · have ev : ∀ (k : Nat) (x : Int), s.xs[k]? = some x → idx s.xs (k : Int) = some x := fun k x hx => by rw [idx_nat, hx]
        have e0 := ev 0 b0 (by rw [hs]; rfl)
        have e1 := ev 1 b1 (by rw [hs]; rfl)
        have e2 := ev 2 b2 (by rw [hs]; rfl)
        have e3 := ev 3 b3 (by rw [hs]; rfl)
        have e4 := ev 4 b4 (by rw [hs]; rfl)
        have e5 := ev 5 b5 (by rw [hs]; rfl)
        have e7 := ev 7 b7 (by rw [hs]; rfl)
        have e8 := ev 8 b8 (by rw [hs]; rfl)
        simp only [Int.ofNat_zero, Int.natCast_one, Int.cast_ofNat_Int] at e0 e1 e2 e3 e4 e5 e7 e8
        have m1 : ckI .i64 (256 * b3) = some (256 * b3) := ck_i64 (by omega)
        have m2 : ckI .i64 (b2 + 256 * b3) = some (b2 + 256 * b3) := ck_i64 (by omega)
        have m3 : remI .u8 b7 32 = some (b7 % 32) := remI_ok h7.1 (by decide) (by simp; omega)
        have hk := fun hc => hok (key.1 hc)
        simp only [Bool.and_eq_true, decide_eq_true_eq, beq_iff_eq] at hk
        have hR : cfRead s.xs = ((0, 0, 0, 0, false, false, 0), 4) := by unfold cfRead; rw [if_neg (by simp [hl]), if_neg hok]
        rw [hR]
        simp only [hL, hL', e0, e1, e2, e3, e4, e5, e7, e8, m1, m2, m3, Option.bind_some, andS, if_true]
        simp [(eqP_iff (t := cfT) (by rfl) (0, 0, 0, 0, false, false, 0) (0, 0, 0, 0, false, false, 0)).2 rfl]
        exact Classical.byContradiction fun hno => hk (by omega)
    · have hL : (lenI s == 9) = false := by simp [lenI]; omega
      have hL' : ¬ lenI s = 9 := by simp [lenI]; omega
      have hR : cfRead s.xs = ((0, 0, 0, 0, false, false, 0), 5) := by unfold cfRead; rw [if_pos hl]
      rw [hR]
      simp [hL, hL', (eqP_iff (t := cfT) (by rfl) (0, 0, 0, 0, false, false, 0) (0, 0, 0, 0, false, false, 0)).2 rfl]
end Go.Proofs.Ytojifdijcanbpaa
