/- DescriptorsDevice in plain words: every device, all bytes. -/
import Derived.Test.YtojifdijcanbpaaPS13
import Derived.Test.YtojifdijcanbpaaQd2
set_option linter.unusedVariables false
set_option linter.unusedSimpArgs false
namespace Go.Proofs.Ytojifdijcanbpaa
open Go.RowKit

abbrev dvT : GT := .pair (.int .u16) (.pair (.int .u8) (.pair (.int .u8) (.pair (.int .u8) (.pair (.int .u8) (.pair (.int .u16) (.pair (.int .u16) (.pair (.int .u16) (.pair (.int .u8) (.pair (.int .u8) (.pair (.int .u8) (.int .u8)))))))))))
abbrev Dev : Type := Int × Int × Int × Int × Int × Int × Int × Int × Int × Int × Int × Int
def W16 (x : Int) : Prop := 0 ≤ x ∧ x ≤ 65535
def B8 (x : Int) : Prop := 0 ≤ x ∧ x ≤ 255
def DvIn : Dev → Prop
  | (u, a, b, c, d, v, p, r, e, f, g, k) => W16 u ∧ B8 a ∧ B8 b ∧ B8 c ∧ B8 d ∧ W16 v ∧ W16 p ∧ W16 r ∧ B8 e ∧ B8 f ∧ B8 g ∧ B8 k
theorem dvIn_of {w : World} {K : Nat → Prop} {v : Value} {c : Dev} (h : RepV (.st dvT) w K v c) : DvIn c := by
  obtain ⟨cs, ⟨c1, r1, _, h1, c2, r2, _, h2, c3, r3, _, h3, c4, r4, _, h4, c5, r5, _, h5, c6, r6, _, h6, c7, r7, _, h7, c8, r8, _, h8, c9, r9, _, h9, c10, r10, _, h10, c11, r11, _, h11, h12⟩, _⟩ := h
  exact ⟨inR_u16.1 h1.2, inR_u8.1 h2.2, inR_u8.1 h3.2, inR_u8.1 h4.2, inR_u8.1 h5.2, inR_u16.1 h6.2, inR_u16.1 h7.2, inR_u16.1 h8.2, inR_u8.1 h9.2, inR_u8.1 h10.2, inR_u8.1 h11.2, inR_u8.1 h12.2⟩
def dvOk : Dev → Prop
  | (_, _, _, _, d, _, _, _, _, _, _, k) => (d = 8 ∨ d = 16 ∨ d = 32 ∨ d = 64) ∧ 1 ≤ k ∧ k ≤ 8
instance (c : Dev) : Decidable (dvOk c) := by obtain ⟨_, _, _, _, d, _, _, _, _, _, _, k⟩ := c; exact inferInstanceAs (Decidable ((d = 8 ∨ d = 16 ∨ d = 32 ∨ d = 64) ∧ 1 ≤ k ∧ k ≤ 8))
def dvBytes : Dev → List Int
  | (u, a, b, c, d, v, p, r, e, f, g, k) => [18, 1, u % 256, u / 256, a, b, c, d, v % 256, v / 256, p % 256, p / 256, r % 256, r / 256, e, f, g, k]
theorem p15_1 (n : Nat) (x : Int) : p15 n x 1 = some (decide (x = 8 ∨ x = 16 ∨ x = 32 ∨ x = 64)) := by
  unfold p15
  simp only [orS, Option.bind_some]
  rw [if_neg (by decide), if_pos (by decide)]
  congr 1
  rw [Bool.eq_iff_iff]
  simp only [Bool.or_eq_true, beq_iff_eq, decide_eq_true_eq, or_assoc]
theorem p16_eq (n : Nat) (c : Dev) (h : DvIn c) : p16 n c = some (if dvOk c then (⟨dvBytes c, some 18⟩, 0) else (⟨[], some 0⟩, 1)) := by
  obtain ⟨u, a, b, c, d, v, p, r, e, f, g, k⟩ := c
  obtain ⟨hu, _, _, _, _, hv, hp, hr, _⟩ := h
  unfold p16
  simp only [p15_1, orS, Option.bind_some]
  by_cases hk : (d = 8 ∨ d = 16 ∨ d = 32 ∨ d = 64) ∧ 1 ≤ k ∧ k ≤ 8
  · rw [if_neg (by simp; omega), if_pos (show dvOk (u, a, b, c, d, v, p, r, e, f, g, k) from hk)]
    simp only [p42_eq, p43_eq n hu, p43_eq n hv, p43_eq n hp, p43_eq n hr, Option.bind_some]
    rw [p41_eq n _ (by simp)]
    simp [dvBytes]
  · rw [if_pos (by simp; omega), if_neg (show ¬ dvOk (u, a, b, c, d, v, p, r, e, f, g, k) from hk)]
theorem p33_eq (n : Nat) (c : Dev) (h : DvIn c) : p33 n c = some (if dvOk c then dvBytes c else []) := by
  obtain ⟨u, a, b, c, d, v, p, r, e, f, g, k⟩ := c
  obtain ⟨hu, _, _, _, _, hv, hp, hr, _⟩ := h
  unfold p33
  simp only [andS, orS, Option.bind_some]
  by_cases hk : (d = 8 ∨ d = 16 ∨ d = 32 ∨ d = 64) ∧ 1 ≤ k ∧ k ≤ 8
  · rw [if_neg (by simp; omega), if_pos (show dvOk (u, a, b, c, d, v, p, r, e, f, g, k) from hk)]
    rw [p38_eq n hu, Option.bind_some, catS_le (by simp), Option.bind_some, catS_le (by simp), Option.bind_some, p38_eq n hv, Option.bind_some, catS_le (by simp), Option.bind_some, p38_eq n hp, Option.bind_some, catS_le (by simp), Option.bind_some, p38_eq n hr, Option.bind_some, catS_le (by simp), Option.bind_some, catS_le (by simp), Option.bind_some]
    rfl
  · rw [if_pos (by simp; omega), if_neg (show ¬ dvOk (u, a, b, c, d, v, p, r, e, f, g, k) from hk)]
def dvDec (l : List Int) : Dev := match l with
  | [_, _, b2, b3, b4, b5, b6, b7, b8, b9, b10, b11, b12, b13, b14, b15, b16, b17] => (b2 + 256 * b3, b4, b5, b6, b7, b8 + 256 * b9, b10 + 256 * b11, b12 + 256 * b13, b14, b15, b16, b17)
  | _ => (0, 0, 0, 0, 0, 0, 0, 0, 0, 0, 0, 0)
theorem list18 {α : Type} {l : List α} (h : l.length = 18) : ∃ a b c d e f g i j k m n o p q r s t, l = [a, b, c, d, e, f, g, i, j, k, m, n, o, p, q, r, s, t] := by
  match l, h with
  | [a, b, c, d, e, f, g, i, j, k, m, n, o, p, q, r, s, t], _ => exact ⟨a, b, c, d, e, f, g, i, j, k, m, n, o, p, q, r, s, t, rfl⟩
theorem p54_eq (n : Nat) (s : Sl Int) (hl : s.xs.length = 18) (hB : Byt s.xs) : p54 n s = some (dvDec s.xs) := by
  obtain ⟨xs, cap⟩ := s
  obtain ⟨b0, b1, b2, b3, b4, b5, b6, b7, b8, b9, b10, b11, b12, b13, b14, b15, b16, b17, rfl⟩ := list18 hl
  have w2 := p46_eq n 2 (x := b2) (y := b3) ⟨[b0, b1, b2, b3, b4, b5, b6, b7, b8, b9, b10, b11, b12, b13, b14, b15, b16, b17], cap⟩ rfl rfl (by decide) (hB b2 (by simp)) (hB b3 (by simp))
  have w8 := p46_eq n 8 (x := b8) (y := b9) ⟨[b0, b1, b2, b3, b4, b5, b6, b7, b8, b9, b10, b11, b12, b13, b14, b15, b16, b17], cap⟩ rfl rfl (by decide) (hB b8 (by simp)) (hB b9 (by simp))
  have w10 := p46_eq n 10 (x := b10) (y := b11) ⟨[b0, b1, b2, b3, b4, b5, b6, b7, b8, b9, b10, b11, b12, b13, b14, b15, b16, b17], cap⟩ rfl rfl (by decide) (hB b10 (by simp)) (hB b11 (by simp))
  have w12 := p46_eq n 12 (x := b12) (y := b13) ⟨[b0, b1, b2, b3, b4, b5, b6, b7, b8, b9, b10, b11, b12, b13, b14, b15, b16, b17], cap⟩ rfl rfl (by decide) (hB b12 (by simp)) (hB b13 (by simp))
  unfold p54
  rw [show (2 : Int) = ((2 : Nat) : Int) from rfl, w2, show (8 : Int) = ((8 : Nat) : Int) from rfl, w8, show (10 : Int) = ((10 : Nat) : Int) from rfl, w10, show (12 : Int) = ((12 : Nat) : Int) from rfl, w12]
  simp [idx, dvDec]
theorem dvDec_bytes (c : Dev) (h : DvIn c) : dvDec (dvBytes c) = c := by
  obtain ⟨u, a, b, c, d, v, p, r, e, f, g, k⟩ := c
  obtain ⟨hu, _, _, _, _, hv, hp, hr, _⟩ := h
  obtain ⟨_, _⟩ := hu
  obtain ⟨_, _⟩ := hv
  obtain ⟨_, _⟩ := hp
  obtain ⟨_, _⟩ := hr
  show (u % 256 + 256 * (u / 256), a, b, c, d, v % 256 + 256 * (v / 256), p % 256 + 256 * (p / 256), r % 256 + 256 * (r / 256), e, f, g, k) = _
  rw [show u % 256 + 256 * (u / 256) = u by omega, show v % 256 + 256 * (v / 256) = v by omega, show p % 256 + 256 * (p / 256) = p by omega, show r % 256 + 256 * (r / 256) = r by omega]
theorem dvBytes_byt (c : Dev) (h : DvIn c) : Byt (dvBytes c) := by
  obtain ⟨u, a, b, c, d, v, p, r, e, f, g, k⟩ := c
  obtain ⟨⟨_, _⟩, ⟨_, _⟩, ⟨_, _⟩, ⟨_, _⟩, ⟨_, _⟩, ⟨_, _⟩, ⟨_, _⟩, ⟨_, _⟩, ⟨_, _⟩, ⟨_, _⟩, ⟨_, _⟩, ⟨_, _⟩⟩ := h
  intro z hz
  simp only [dvBytes, List.mem_cons, List.not_mem_nil, or_false] at hz
  rcases hz with rfl | rfl | rfl | rfl | rfl | rfl | rfl | rfl | rfl | rfl | rfl | rfl | rfl | rfl | rfl | rfl | rfl | rfl <;> omega
theorem dvDec_in (l : List Int) (hl : l.length = 18) (hB : Byt l) : DvIn (dvDec l) := by
  obtain ⟨b0, b1, b2, b3, b4, b5, b6, b7, b8, b9, b10, b11, b12, b13, b14, b15, b16, b17, rfl⟩ := list18 hl
  have h2 := hB b2 (by simp)
  have h3 := hB b3 (by simp)
  have h8 := hB b8 (by simp)
  have h9 := hB b9 (by simp)
  have h10 := hB b10 (by simp)
  have h11 := hB b11 (by simp)
  have h12 := hB b12 (by simp)
  have h13 := hB b13 (by simp)
  exact ⟨⟨by omega, by omega⟩, hB b4 (by simp), hB b5 (by simp), hB b6 (by simp), hB b7 (by simp), ⟨by omega, by omega⟩, ⟨by omega, by omega⟩, ⟨by omega, by omega⟩, hB b14 (by simp), hB b15 (by simp), hB b16 (by simp), hB b17 (by simp)⟩
abbrev dv0 : Dev := (0, 0, 0, 0, 0, 0, 0, 0, 0, 0, 0, 0)
def dvRead (l : List Int) : Dev × Int := if l.length ≠ 18 then (dv0, 5) else if dvOk (dvDec l) ∧ dvBytes (dvDec l) = l then (dvDec l, 0) else (dv0, 4)
theorem dvBytes_len (c : Dev) : (dvBytes c).length = 18 := by obtain ⟨u, a, b, c, d, v, p, r, e, f, g, k⟩ := c; rfl
theorem p34_eq (n : Nat) (s : Sl Int) (hB : Byt s.xs) (hn : 60 < n) (hn' : n < 1000000) : p34 n s = some (dvRead s.xs) := by
  unfold p34 p53 dvRead
  by_cases hl : s.xs.length = 18
  · have e : (lenI s != 18) = false := by simp [lenI, hl]
    have hin := dvDec_in s.xs hl hB
    rw [e, p54_eq n s hl hB]
    simp only [Bool.false_eq_true, if_false, Option.bind_some, p16_eq n _ hin, hl, ne_eq, not_true_eq_false]
    by_cases hk : dvOk (dvDec s.xs)
    · simp only [if_pos hk, Option.bind_some, hk, true_and]
      rw [p55_eq _ _ (by simp [dvBytes_len]; omega) hn']
      by_cases he : dvBytes (dvDec s.xs) = s.xs <;> simp [he]
    · simp [hk]
  · have e : (lenI s != 18) = true := by simp [lenI]; omega
    rw [e]
    simp [hl]
theorem p35_eq (n : Nat) (s : Sl Int) (hl : s.xs.length = 18) (hB : Byt s.xs) : p35 n s = some (decide (dvOk (dvDec s.xs) ∧ dvBytes (dvDec s.xs) = s.xs)) := by
  obtain ⟨xs, cap⟩ := s
  obtain ⟨b0, b1, b2, b3, b4, b5, b6, b7, b8, b9, b10, b11, b12, b13, b14, b15, b16, b17, rfl⟩ := list18 hl
  have h2 := hB b2 (by simp)
  have h3 := hB b3 (by simp)
  have h8 := hB b8 (by simp)
  have h9 := hB b9 (by simp)
  have h10 := hB b10 (by simp)
  have h11 := hB b11 (by simp)
  have h12 := hB b12 (by simp)
  have h13 := hB b13 (by simp)
  unfold p35
  have e0 : idx [b0, b1, b2, b3, b4, b5, b6, b7, b8, b9, b10, b11, b12, b13, b14, b15, b16, b17] 0 = some b0 := rfl
  have e1 : idx [b0, b1, b2, b3, b4, b5, b6, b7, b8, b9, b10, b11, b12, b13, b14, b15, b16, b17] 1 = some b1 := rfl
  have e7 : idx [b0, b1, b2, b3, b4, b5, b6, b7, b8, b9, b10, b11, b12, b13, b14, b15, b16, b17] 7 = some b7 := rfl
  have e17 : idx [b0, b1, b2, b3, b4, b5, b6, b7, b8, b9, b10, b11, b12, b13, b14, b15, b16, b17] 17 = some b17 := rfl
  have hL : (lenI (⟨[b0, b1, b2, b3, b4, b5, b6, b7, b8, b9, b10, b11, b12, b13, b14, b15, b16, b17], cap⟩ : Sl Int) == 18) = true := rfl
  simp only [hL, e0, e1, e7, e17, Option.bind_some, andS, orS, if_true]
  congr 1
  rw [Bool.eq_iff_iff]
  simp only [Bool.and_eq_true, Bool.or_eq_true, beq_iff_eq, decide_eq_true_eq]
  have d1 : (b2 + 256 * b3) % 256 = b2 := by omega
  have d2 : (b2 + 256 * b3) / 256 = b3 := by omega
  have d3 : (b8 + 256 * b9) % 256 = b8 := by omega
  have d4 : (b8 + 256 * b9) / 256 = b9 := by omega
  have d5 : (b10 + 256 * b11) % 256 = b10 := by omega
  have d6 : (b10 + 256 * b11) / 256 = b11 := by omega
  have d7 : (b12 + 256 * b13) % 256 = b12 := by omega
  have d8 : (b12 + 256 * b13) / 256 = b13 := by omega
  simp only [dvOk, dvDec, dvBytes, d1, d2, d3, d4, d5, d6, d7, d8, List.cons.injEq, and_true]
  omega
theorem p10_ok (n : Nat) (c : Dev) (s : Sl Int) (h : DvIn c) (hB : Byt s.xs) (hn : 60 < n) (hn' : n < 1000000) : p10 n c s = some true := by
  unfold p10
  by_cases h40 : lenI s > 40
  · simp [h40, p11]
  · rw [if_neg (by simpa using h40), p16_eq n c h, p33_eq n c h]
    have first : ∃ e : Int, ∃ a : Sl Int, ∃ t : List Int, (if dvOk c then ((⟨dvBytes c, some 18⟩ : Sl Int), (0 : Int)) else (⟨[], some 0⟩, 1)) = (a, e) ∧ (if dvOk c then dvBytes c else []) = t ∧ p19 n a e t = some true ∧ ∃ u, p34 n a = some u ∧ (e = 0 → u = (c, 0)) := by
      by_cases hk : dvOk c
      · have h19 := p19_ok n (dvBytes c) (by intro h0; have := dvBytes_len c; rw [h0] at this; cases this)
        rw [dvBytes_len] at h19
        refine ⟨0, _, _, if_pos hk, if_pos hk, h19, _, p34_eq n _ (dvBytes_byt c h) hn hn', fun _ => ?_⟩
        simp [dvRead, dvDec_bytes c h, hk, dvBytes_len]
      · exact ⟨1, _, _, if_neg hk, if_neg hk, p19_no n, _, p34_eq n _ (by simp [Byt]) hn hn', fun he => by cases he⟩
    obtain ⟨e, a, t, e1, e2, e3, u, e4, e5⟩ := first
    simp only [e1, e2, Option.bind_some, e3, Bool.not_true, Bool.false_eq_true, if_false, e4, orS, andS]
    have eq : (e == 0 && (!eqP dvT u.1 c || u.2 != 0)) = false := by
      by_cases he : e = 0
      · have hc : eqP dvT c c = true := (eqP_iff (t := dvT) (by rfl) c c).2 rfl
        rw [e5 he]
        simp only [hc]
        simp
      · simp [he]
    rw [eq]
    simp only [Bool.false_eq_true, if_false]
    rw [p34_eq n s hB hn hn']
    simp only [Option.bind_some, p11, p22_eq]
    have hz : eqP dvT dv0 dv0 = true := (eqP_iff (t := dvT) (by rfl) dv0 dv0).2 rfl
    by_cases hl : s.xs.length = 18
    · have hL' : lenI s = 18 := by simp [lenI, hl]
      by_cases hok : dvOk (dvDec s.xs) ∧ dvBytes (dvDec s.xs) = s.xs
      · have hR : dvRead s.xs = (dvDec s.xs, 0) := by unfold dvRead; rw [if_neg (by simp [hl]), if_pos hok]
        have hin := dvDec_in s.xs hl hB
        rw [hR]
        simp [p33_eq n _ hin, hok.1, hok.2]
      · have hR : dvRead s.xs = (dv0, 4) := by unfold dvRead; rw [if_neg (by simp [hl]), if_neg hok]
        rw [hR]
        simp only [hz, p35_eq n s hl hB, hL', hok, decide_false]
        simp
    · have hL' : ¬ lenI s = 18 := by simp [lenI]; omega
      have hL : (lenI s == 18) = false := by simp [lenI]; omega
      have hR : dvRead s.xs = (dv0, 5) := by unfold dvRead; rw [if_pos hl]
      have h35 : p35 n s = some false := by unfold p35; simp [hL]
      rw [hR]
      simp only [hz, h35, hL']
      simp
end Go.Proofs.Ytojifdijcanbpaa
