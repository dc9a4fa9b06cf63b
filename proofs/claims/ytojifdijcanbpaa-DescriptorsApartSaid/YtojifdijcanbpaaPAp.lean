/- DescriptorsApart in plain words: every two devices. -/
import Derived.Test.YtojifdijcanbpaaPDv
import Derived.Test.YtojifdijcanbpaaQa1
import Derived.Test.YtojifdijcanbpaaXE16
set_option linter.unusedVariables false
set_option linter.unusedSimpArgs false
namespace Go.Proofs.Ytojifdijcanbpaa
open Go.RowKit

abbrev apT : GT := .pair (.int .u8) (.pair (.int .u8) (.pair (.int .u8) (.pair (.int .u8) (.arr 3 (.int .u16)))))
abbrev Apd_ : Type := Int × Int × Int × Int × List Int
def ApIn (x : Apd_) : Prop := B8 x.1 ∧ B8 x.2.1 ∧ B8 x.2.2.1 ∧ B8 x.2.2.2.1 ∧ ∃ a b c, x.2.2.2.2 = [a, b, c] ∧ W16 a ∧ W16 b ∧ W16 c
theorem apIn_of {w : World} {K : Nat → Prop} {v : Value} {x : Apd_} (h : RepV (.st apT) w K v x) : ApIn x := by
  obtain ⟨a, b, c, d, l⟩ := x
  have h := h.fine
  obtain ⟨h1, h2, h3, h4, h5, h6⟩ := (show InR .u8 a ∧ InR .u8 b ∧ InR .u8 c ∧ InR .u8 d ∧ l.length = 3 ∧ ∀ y ∈ l, InR .u16 y from h)
  match l, h5, h6 with
  | [e, f, g], _, h6 => exact ⟨inR_u8.1 h1, inR_u8.1 h2, inR_u8.1 h3, inR_u8.1 h4, e, f, g, rfl, inR_u16.1 (h6 e (by simp)), inR_u16.1 (h6 f (by simp)), inR_u16.1 (h6 g (by simp))⟩
theorem p17_l1_ok (n : Nat) (x : Apd_) (hx : ApIn x) : ∀ (m : Nat) (k c : Int), 0 ≤ k → k ≤ 4 → 4 < k + m → c * 2 ^ (4 - k).toNat ≤ 128 → (c = 8 ∧ k = 0 ∨ c = 16 ∧ k = 1 ∨ c = 32 ∧ k = 2 ∨ c = 64 ∧ k = 3) →
    ∃ r, p17_l1 n x m k c = some r ∧ (r = 8 ∨ r = 16 ∨ r = 32 ∨ r = 64)
  | 0, k, c, h0, h4, h, _, hc => by omega
  | m + 1, k, c, h0, h4, h, hq, hc => by
    unfold p17_l1
    have hx0 := hx
    obtain ⟨_, ⟨hb, hb'⟩, _⟩ := hx0
    rw [remI_ok hb (by decide) (by simp; omega), Option.bind_some]
    by_cases hlt : k < x.2.1 % 4
    · rw [if_pos (by simpa using hlt), ck_i64 (by omega), Option.bind_some, wrap_u8]
      have e : (c * 2) % 256 = c * 2 := by omega
      rw [e]
      refine p17_l1_ok n x hx m (k + 1) (c * 2) (by omega) (by omega) (by omega) ?_ (by omega)
      rcases hc with ⟨rfl, rfl⟩ | ⟨rfl, rfl⟩ | ⟨rfl, rfl⟩ | ⟨rfl, rfl⟩ <;> decide
    · rw [if_neg (by simpa using hlt)]
      exact ⟨c, rfl, by omega⟩
theorem p17_ok (n : Nat) (x : Apd_) (hx : ApIn x) (hn : 10 < n) : ∃ d : Dev, p17 n x = some d ∧ DvIn d ∧ dvOk d := by
  obtain ⟨r, hr, hr'⟩ := p17_l1_ok n x hx n 0 8 (by decide) (by decide) (by omega) (by decide) (.inl ⟨rfl, rfl⟩)
  obtain ⟨⟨h1, h1'⟩, ⟨h2, h2'⟩, ⟨h3, h3'⟩, ⟨h4, h4'⟩, e, f, g, hl, he, hf, hg⟩ := hx
  unfold p17
  rw [hr, Option.bind_some, quoI_ok h1 (by decide) (by simp; omega), Option.bind_some, remI_ok h1 (by decide) (by simp; omega), Option.bind_some, hl]
  rw [show idx [e, f, g] 0 = some e from rfl, Option.bind_some, show idx [e, f, g] 1 = some f from rfl, Option.bind_some, show idx [e, f, g] 2 = some g from rfl, Option.bind_some]
  rw [remI_ok h3 (by decide) (by simp; omega), Option.bind_some, quoI_ok h3 (by decide) (by simp; omega), Option.bind_some, remI_ok (by omega) (by decide) (by simp; omega), Option.bind_some, quoI_ok h3 (by decide) (by simp; omega), Option.bind_some, remI_ok (by omega) (by decide) (by simp; omega), Option.bind_some, remI_ok h4 (by decide) (by simp; omega), Option.bind_some, wrap_u8]
  refine ⟨_, rfl, ⟨⟨by decide, by decide⟩, ⟨h1, h1'⟩, ⟨by omega, by omega⟩, ⟨by omega, by omega⟩, ⟨by omega, by omega⟩, he, hf, hg, ⟨by omega, by omega⟩, ⟨by omega, by omega⟩, ⟨by omega, by omega⟩, ⟨by omega, by omega⟩⟩, hr', by omega, by omega⟩
theorem p5_ok (n : Nat) (x y : Apd_) (k : Int) (hx : ApIn x) (hy : ApIn y) (hk : 0 ≤ k ∧ k ≤ 255) (hn : 10 < n) : p5 n x y k = some true := by
  unfold p5
  rw [remI_ok hk.1 (by decide) (by simp; omega), Option.bind_some]
  have s1 : ∃ z : Apd_, (if (k % 2 == 1) = true then (some (y.1, y.2.1, y.2.2.1, y.2.2.2.1, x.2.2.2.2)) else some y) = some z ∧ ApIn z := by
    by_cases h : (k % 2 == 1) = true
    · exact ⟨_, if_pos h, hy.1, hy.2.1, hy.2.2.1, hy.2.2.2.1, hx.2.2.2.2⟩
    · exact ⟨_, if_neg h, hy⟩
  obtain ⟨z, e1, hz⟩ := s1
  rw [e1, Option.bind_some, quoI_ok hk.1 (by decide) (by simp; omega), Option.bind_some, remI_ok (by omega) (by decide) (by simp; omega), Option.bind_some]
  have s2 : ∃ u : Apd_, (if (k / 2 % 2 == 1) = true then (some (x.1, x.2.1, z.2.2.1, z.2.2.2.1, z.2.2.2.2)) else some z) = some u ∧ ApIn u := by
    by_cases h : (k / 2 % 2 == 1) = true
    · exact ⟨_, if_pos h, hx.1, hx.2.1, hz.2.2.1, hz.2.2.2.1, hz.2.2.2.2⟩
    · exact ⟨_, if_neg h, hz⟩
  obtain ⟨u, e2, hu⟩ := s2
  rw [e2, Option.bind_some, quoI_ok hk.1 (by decide) (by simp; omega), Option.bind_some, remI_ok (by omega) (by decide) (by simp; omega), Option.bind_some]
  have s3 : ∃ v : Apd_, (if (k / 4 % 2 == 1) = true then (some (u.1, u.2.1, x.2.2.1, x.2.2.2.1, u.2.2.2.2)) else some u) = some v ∧ ApIn v := by
    by_cases h : (k / 4 % 2 == 1) = true
    · exact ⟨_, if_pos h, hu.1, hu.2.1, hx.2.2.1, hx.2.2.2.1, hu.2.2.2.2⟩
    · exact ⟨_, if_neg h, hu⟩
  obtain ⟨v, e3, hv⟩ := s3
  obtain ⟨d, hd, hdi, hdo⟩ := p17_ok n x hx hn
  obtain ⟨e, he, hei, heo⟩ := p17_ok n v hv hn
  rw [e3, Option.bind_some, hd, Option.bind_some, p16_eq n d hdi, if_pos hdo, Option.bind_some, he, Option.bind_some, p16_eq n e hei, if_pos heo, Option.bind_some]
  have hb : decide (dvBytes d = dvBytes e) = eqP dvT d e := by
    rw [Bool.eq_iff_iff, eqP_iff (t := dvT) (by rfl) d e, decide_eq_true_eq]
    exact ⟨fun h => by rw [← dvDec_bytes d hdi, h, dvDec_bytes e hei], fun h => by rw [h]⟩
  have hL : (lenI (⟨dvBytes d, some 18⟩ : Sl Int) == 18) = true := by simp [lenI, dvBytes_len]
  rw [show ((0 : Int) == 0) = true from rfl, if_pos rfl, Option.bind_some, if_pos rfl, Option.bind_some, hL, if_pos rfl, Option.bind_some, Option.bind_some, hb]
  simp [p11]
end Go.Proofs.Ytojifdijcanbpaa
