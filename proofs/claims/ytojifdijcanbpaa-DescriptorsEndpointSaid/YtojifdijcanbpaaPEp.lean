/- DescriptorsEndpoint in plain words: every endpoint, all bytes. -/
import Derived.Test.YtojifdijcanbpaaPS13
import Derived.Test.YtojifdijcanbpaaQe2
set_option linter.unusedVariables false
set_option linter.unusedSimpArgs false
namespace Go.Proofs.Ytojifdijcanbpaa
open Go.RowKit

abbrev epT : GT := .pair (.int .u8) (.pair .bool (.pair (.int .u8) (.pair (.int .u16) (.int .u8))))
abbrev Epd : Type := Int × Bool × Int × Int × Int
def EpIn : Epd → Prop
  | (m, _, k, x, i) => (0 ≤ m ∧ m ≤ 255) ∧ (0 ≤ k ∧ k ≤ 255) ∧ (0 ≤ x ∧ x ≤ 65535) ∧ (0 ≤ i ∧ i ≤ 255)
theorem epIn_of {w : World} {K : Nat → Prop} {v : Value} {c : Epd} (h : RepV (.st epT) w K v c) : EpIn c := by
  obtain ⟨cs, ⟨c1, r1, _, h1, c2, r2, _, h2, c3, r3, _, h3, c4, r4, _, h4, h5⟩, _⟩ := h
  exact ⟨inR_u8.1 h1.2, inR_u8.1 h3.2, inR_u16.1 h4.2, inR_u8.1 h5.2⟩
def epOk : Epd → Prop
  | (m, _, k, x, i) => (1 ≤ m ∧ m ≤ 15 ∧ 1 ≤ x ∧ x ≤ 1024) ∧ ((k = 2 ∧ i = 0) ∨ (k = 1 ∧ 1 ≤ i ∧ i ≤ 16) ∨ (k = 3 ∧ 1 ≤ i))
instance (c : Epd) : Decidable (epOk c) := by obtain ⟨m, _, k, x, i⟩ := c; exact inferInstanceAs (Decidable ((1 ≤ m ∧ m ≤ 15 ∧ 1 ≤ x ∧ x ≤ 1024) ∧ ((k = 2 ∧ i = 0) ∨ (k = 1 ∧ 1 ≤ i ∧ i ≤ 16) ∨ (k = 3 ∧ 1 ≤ i))))
def epAddr (m : Int) (b : Bool) : Int := m % 16 + if b = true then 128 else 0
def epBytes : Epd → List Int
  | (m, b, k, x, i) => [7, 5, epAddr m b, k, x % 256, x / 256, i]
theorem ep_fin8 {p : Int → Prop} (h : ∀ k : Fin 256, p (k.val : Int)) {y : Int} (hy : 0 ≤ y ∧ y ≤ 255) : p y := by
  have := h ⟨y.toNat, by omega⟩
  rwa [show (((⟨y.toNat, by omega⟩ : Fin 256)).val : Int) = y by show ((y.toNat : Nat) : Int) = y; omega] at this
theorem ep_and15 {y : Int} (hy : 0 ≤ y ∧ y ≤ 255) : bitsI .and .u8 y 15 = y % 16 := ep_fin8 (p := fun y => bitsI .and .u8 y 15 = y % 16) (by decide +kernel) hy
theorem ep_or128 {y : Int} (hy : 0 ≤ y ∧ y ≤ 255) : bitsI .or .u8 (y % 16) 128 = y % 16 + 128 := ep_fin8 (p := fun y => bitsI .or .u8 (y % 16) 128 = y % 16 + 128) (by decide +kernel) hy
theorem ep_andNot128 {y : Int} (hy : 0 ≤ y ∧ y ≤ 255) : bitsI .andNot .u8 y 128 = y % 128 := ep_fin8 (p := fun y => bitsI .andNot .u8 y 128 = y % 128) (by decide +kernel) hy
theorem ep_and128 {y : Int} (hy : 0 ≤ y ∧ y ≤ 255) : (bitsI .and .u8 y 128 != 0) = decide (y > 127) := ep_fin8 (p := fun y => (bitsI .and .u8 y 128 != 0) = decide (y > 127)) (by decide +kernel) hy
theorem p24_eq (n : Nat) (c : Epd) (h : EpIn c) : p24 n c = some (epAddr c.1 c.2.1) := by
  obtain ⟨m, b, k, x, i⟩ := c
  have hm : 0 ≤ m ∧ m ≤ 255 := h.1
  unfold p24
  cases b <;> simp [ep_and15 hm, ep_or128 hm, epAddr]
theorem p25_eq (n : Nat) (c : Epd) (h : EpIn c) : p25 n c = some (epAddr c.1 c.2.1) := by
  obtain ⟨m, b, k, x, i⟩ := c
  have hm : 0 ≤ m ∧ m ≤ 255 := h.1
  unfold p25
  simp only [remI_ok hm.1 (by decide : (0 : Int) < 16) (inR_u8.2 (by omega)), Option.bind_some, wrap_u8]
  cases b
  · simp [epAddr]
  · simp only [if_true, epAddr]
    congr 1
    omega
theorem p39_eq (n : Nat) (c : Epd) : p39 n c = some (decide (epOk c)) := by
  obtain ⟨m, b, k, x, i⟩ := c
  unfold p39
  simp only [orS, andS, Option.bind_some]
  by_cases h1 : 1 ≤ m ∧ m ≤ 15 ∧ 1 ≤ x ∧ x ≤ 1024
  · rw [if_neg (by simp; omega)]
    by_cases k2 : k = 2
    · rw [if_pos (by simp [k2])]
      congr 1
      rw [Bool.eq_iff_iff]
      simp [epOk, k2, h1]
    · rw [if_neg (by simp [k2])]
      by_cases k1 : k = 1
      · rw [if_pos (by simp [k1])]
        congr 1
        rw [Bool.eq_iff_iff]
        simp [epOk, k1, h1]
      · rw [if_neg (by simp [k1])]
        congr 1
        rw [Bool.eq_iff_iff]
        simp [epOk, k1, k2, h1]
  · rw [if_pos (by simp; omega)]
    congr 1
    rw [Bool.eq_iff_iff]
    simp only [Bool.false_eq_true, decide_eq_true_eq, false_iff]
    exact fun hk => h1 hk.1
theorem p23_eq (n : Nat) (c : Epd) (h : EpIn c) : p23 n c = some (if epOk c then (⟨epBytes c, some 7⟩, 0) else (⟨[], some 0⟩, 1)) := by
  obtain ⟨m, b, k, x, i⟩ := c
  have hx : 0 ≤ x ∧ x ≤ 65535 := h.2.2.1
  unfold p23
  rw [p39_eq]
  by_cases hk : epOk (m, b, k, x, i)
  · simp only [hk, decide_true, Option.bind_some, Bool.not_true, Bool.false_eq_true, if_false, if_true, p24_eq n _ h, p42_eq, p43_eq n hx]
    rw [p41_eq n _ (by simp)]
    simp [epBytes]
  · simp [hk]
theorem p13_eq (n : Nat) (c : Epd) (h : EpIn c) : p13 n c = some (if epOk c then epBytes c else []) := by
  obtain ⟨m, b, k, x, i⟩ := c
  have hx : 0 ≤ x ∧ x ≤ 65535 := h.2.2.1
  have hk0 : 0 ≤ k ∧ k ≤ 255 := h.2.1
  have hi0 : 0 ≤ i ∧ i ≤ 255 := h.2.2.2
  unfold p13
  simp only [orS, andS, Option.bind_some]
  by_cases h1 : 1 ≤ m ∧ m ≤ 15 ∧ 1 ≤ x ∧ x ≤ 1024
  · rw [if_neg (by simp; omega)]
    by_cases hk : epOk (m, b, k, x, i)
    · have hk2 := hk.2
      rw [if_neg (by simp; omega), if_pos hk, p25_eq n _ h, Option.bind_some, catS_le (by simp), Option.bind_some, p38_eq n hx, Option.bind_some, catS_le (by simp), Option.bind_some, catS_le (by simp), Option.bind_some]
      rfl
    · have hk2 : ¬ ((k = 2 ∧ i = 0) ∨ (k = 1 ∧ 1 ≤ i ∧ i ≤ 16) ∨ (k = 3 ∧ 1 ≤ i)) := fun hc => hk ⟨h1, hc⟩
      rw [if_pos (by simp; omega), if_neg hk]
  · rw [if_pos (by simp; omega), if_neg (fun hk => h1 hk.1)]
def epDec (l : List Int) : Epd := match l with
  | [_, _, b2, b3, b4, b5, b6] => (b2 % 128, decide (b2 > 127), b3, b4 + 256 * b5, b6)
  | _ => (0, false, 0, 0, 0)
theorem list7' {α : Type} {l : List α} (h : l.length = 7) : ∃ a b c d e f g, l = [a, b, c, d, e, f, g] := by
  match l, h with
  | [a, b, c, d, e, f, g], _ => exact ⟨a, b, c, d, e, f, g, rfl⟩
theorem p48_eq (n : Nat) (s : Sl Int) (hl : s.xs.length = 7) (hB : Byt s.xs) : p48 n s = some (epDec s.xs) := by
  obtain ⟨xs, cap⟩ := s
  obtain ⟨b0, b1, b2, b3, b4, b5, b6, rfl⟩ := list7' hl
  have h2 := hB b2 (by simp)
  have w4 := p46_eq n 4 (x := b4) (y := b5) ⟨[b0, b1, b2, b3, b4, b5, b6], cap⟩ rfl rfl (by decide) (hB b4 (by simp)) (hB b5 (by simp))
  unfold p48
  rw [show (4 : Int) = ((4 : Nat) : Int) from rfl, w4]
  simp [idx, epDec, ep_andNot128 h2, ep_and128 h2]
theorem epDec_bytes (c : Epd) (h : EpIn c) (hk : epOk c) : epDec (epBytes c) = c := by
  obtain ⟨m, b, k, x, i⟩ := c
  obtain ⟨⟨h1, h2, h3, h4⟩, _⟩ := hk
  show (epAddr m b % 128, decide (epAddr m b > 127), k, x % 256 + 256 * (x / 256), i) = _
  rw [show x % 256 + 256 * (x / 256) = x by omega]
  cases b
  · rw [show epAddr m false % 128 = m by simp [epAddr]; omega, show decide (epAddr m false > 127) = false by simp [epAddr]; omega]
  · rw [show epAddr m true % 128 = m by simp [epAddr]; omega, show decide (epAddr m true > 127) = true by simp [epAddr]; omega]
theorem epBytes_byt (c : Epd) (h : EpIn c) : Byt (epBytes c) := by
  obtain ⟨m, b, k, x, i⟩ := c
  obtain ⟨⟨_, _⟩, ⟨_, _⟩, ⟨_, _⟩, ⟨_, _⟩⟩ := h
  have ha : 0 ≤ epAddr m b ∧ epAddr m b ≤ 255 := by cases b <;> simp [epAddr] <;> omega
  intro z hz
  simp only [epBytes, List.mem_cons, List.not_mem_nil, or_false] at hz
  rcases hz with rfl | rfl | rfl | rfl | rfl | rfl | rfl <;> omega
theorem epDec_in (l : List Int) (hl : l.length = 7) (hB : Byt l) : EpIn (epDec l) := by
  obtain ⟨b0, b1, b2, b3, b4, b5, b6, rfl⟩ := list7' hl
  have h2 := hB b2 (by simp)
  have h4 := hB b4 (by simp)
  have h5 := hB b5 (by simp)
  exact ⟨⟨by omega, by omega⟩, hB b3 (by simp), ⟨by omega, by omega⟩, hB b6 (by simp)⟩
abbrev ep0 : Epd := (0, false, 0, 0, 0)
def epRead (l : List Int) : Epd × Int := if l.length ≠ 7 then (ep0, 5) else if epOk (epDec l) ∧ epBytes (epDec l) = l then (epDec l, 0) else (ep0, 4)
theorem epBytes_len (c : Epd) : (epBytes c).length = 7 := by obtain ⟨m, b, k, x, i⟩ := c; rfl
theorem p26_eq (n : Nat) (s : Sl Int) (hB : Byt s.xs) (hn : 60 < n) (hn' : n < 1000000) : p26 n s = some (epRead s.xs) := by
  unfold p26 p47 epRead
  by_cases hl : s.xs.length = 7
  · have e : (lenI s != 7) = false := by simp [lenI, hl]
    have hin := epDec_in s.xs hl hB
    rw [e, p48_eq n s hl hB]
    simp only [Bool.false_eq_true, if_false, Option.bind_some, p23_eq n _ hin, hl, ne_eq, not_true_eq_false]
    by_cases hk : epOk (epDec s.xs)
    · simp only [if_pos hk, Option.bind_some, hk, true_and]
      rw [p55_eq _ _ (by simp [epBytes_len]; omega) hn']
      by_cases he : epBytes (epDec s.xs) = s.xs <;> simp [he]
    · simp [hk]
  · have e : (lenI s != 7) = true := by simp [lenI]; omega
    rw [e]
    simp [hl]
theorem p7_ok (n : Nat) (c : Epd) (s : Sl Int) (h : EpIn c) (hB : Byt s.xs) (hn : 60 < n) (hn' : n < 1000000) : p7 n c s = some true := by
  unfold p7
  by_cases h40 : lenI s > 40
  · simp [h40, p11]
  · rw [if_neg (by simpa using h40), p23_eq n c h, p13_eq n c h]
    have first : ∃ e : Int, ∃ a : Sl Int, ∃ t : List Int, (if epOk c then ((⟨epBytes c, some 7⟩ : Sl Int), (0 : Int)) else (⟨[], some 0⟩, 1)) = (a, e) ∧ (if epOk c then epBytes c else []) = t ∧ p19 n a e t = some true ∧ ∃ u, p26 n a = some u ∧ (e = 0 → u = (c, 0)) := by
      by_cases hk : epOk c
      · have h19 := p19_ok n (epBytes c) (by intro h0; have := epBytes_len c; rw [h0] at this; cases this)
        rw [epBytes_len] at h19
        refine ⟨0, _, _, if_pos hk, if_pos hk, h19, _, p26_eq n _ (epBytes_byt c h) hn hn', fun _ => ?_⟩
        simp [epRead, epDec_bytes c h hk, hk, epBytes_len]
      · exact ⟨1, _, _, if_neg hk, if_neg hk, p19_no n, _, p26_eq n _ (by simp [Byt]) hn hn', fun he => by cases he⟩
    obtain ⟨e, a, t, e1, e2, e3, u, e4, e5⟩ := first
    simp only [e1, e2, Option.bind_some, e3, Bool.not_true, Bool.false_eq_true, if_false, e4, orS, andS, p24_eq n c h, p25_eq n c h, if_true, bne_self_eq_false]
    have eq : (e == 0 && (!eqP epT u.1 c || u.2 != 0)) = false := by
      by_cases he : e = 0
      · have hc : eqP epT c c = true := (eqP_iff (t := epT) (by rfl) c c).2 rfl
        rw [e5 he]
        simp only [hc]
        simp
      · simp [he]
    rw [eq]
    simp only [Bool.false_eq_true, if_false]
    rw [p26_eq n s hB hn hn']
    simp only [Option.bind_some, p11, p22_eq]
    have hz : eqP epT ep0 ep0 = true := (eqP_iff (t := epT) (by rfl) ep0 ep0).2 rfl
    by_cases hl : s.xs.length = 7
    · have hL' : lenI s = 7 := by simp [lenI, hl]
      have hin := epDec_in s.xs hl hB
      by_cases hok : epOk (epDec s.xs) ∧ epBytes (epDec s.xs) = s.xs
      · have hR : epRead s.xs = (epDec s.xs, 0) := by unfold epRead; rw [if_neg (by simp [hl]), if_pos hok]
        rw [hR]
        simp [p13_eq n _ hin, hok.1, hok.2]
      · have hR : epRead s.xs = (ep0, 4) := by unfold epRead; rw [if_neg (by simp [hl]), if_neg hok]
        rw [hR]
        obtain ⟨xs, cap⟩ := s
        obtain ⟨b0, b1, b2, b3, b4, b5, b6, rfl⟩ := list7' hl
        have h2 := hB b2 (by simp)
        have h4 := hB b4 (by simp)
        have h5 := hB b5 (by simp)
        have i0 : idx [b0, b1, b2, b3, b4, b5, b6] 0 = some b0 := rfl
        have i1 : idx [b0, b1, b2, b3, b4, b5, b6] 1 = some b1 := rfl
        have i2 : idx [b0, b1, b2, b3, b4, b5, b6] 2 = some b2 := rfl
        have i3 : idx [b0, b1, b2, b3, b4, b5, b6] 3 = some b3 := rfl
        have i4 : idx [b0, b1, b2, b3, b4, b5, b6] 4 = some b4 := rfl
        have i5 : idx [b0, b1, b2, b3, b4, b5, b6] 5 = some b5 := rfl
        have i6 : idx [b0, b1, b2, b3, b4, b5, b6] 6 = some b6 := rfl
        have hw : IntKind.wrap .u16 (b4 + IntKind.wrap .u16 (256 * b5)) = b4 + 256 * b5 := by rw [wrap_u16, wrap_u16]; omega
        have hd : p13 n (b2 % 128, decide (b2 > 127), b3, b4 + 256 * b5, b6) = _ := p13_eq n (epDec [b0, b1, b2, b3, b4, b5, b6]) hin
        have hr : remI .u8 b2 128 = some (b2 % 128) := remI_ok h2.1 (by decide) (inR_u8.2 (by omega))
        simp only [hz, hL', i0, i1, i2, i3, i4, i5, i6, hr, hw, hd, Option.bind_some]
        simp only [beq_self_eq_true, if_true, Bool.not_true, Bool.false_eq_true, if_false, Option.bind_some, andS]
        have hg : (b0 == 7 && b1 == 5 && decide (b2 % 128 < 16) && !decide ((if epOk (epDec [b0, b1, b2, b3, b4, b5, b6]) then epBytes (epDec [b0, b1, b2, b3, b4, b5, b6]) else []) = [])) = false := by
          by_cases hq : (b0 == 7 && b1 == 5 && decide (b2 % 128 < 16)) = true
          · have hno : ¬ epOk (epDec [b0, b1, b2, b3, b4, b5, b6]) := by
              intro hk
              refine hok ⟨hk, ?_⟩
              simp only [Bool.and_eq_true, beq_iff_eq, decide_eq_true_eq] at hq
              obtain ⟨⟨q0, q1⟩, q2⟩ := hq
              show [7, 5, epAddr (b2 % 128) (decide (b2 > 127)), b3, (b4 + 256 * b5) % 256, (b4 + 256 * b5) / 256, b6] = _
              have ha : epAddr (b2 % 128) (decide (b2 > 127)) = b2 := by
                unfold epAddr
                by_cases hc : b2 > 127
                · rw [if_pos (by simpa using hc)]; omega
                · rw [if_neg (by simpa using hc)]; omega
              rw [ha, q0, q1, show (b4 + 256 * b5) % 256 = b4 by omega, show (b4 + 256 * b5) / 256 = b5 by omega]
            rw [if_neg hno, hq]
            rfl
          · rw [Bool.eq_false_iff.2 hq]
            rfl
        rw [hg]
        simp
    · have hL' : ¬ lenI s = 7 := by simp [lenI]; omega
      have hL : (lenI s == 7) = false := by simp [lenI]; omega
      have hR : epRead s.xs = (ep0, 5) := by unfold epRead; rw [if_pos hl]
      rw [hR]
      simp only [hz, hL, hL']
      simp
end Go.Proofs.Ytojifdijcanbpaa
