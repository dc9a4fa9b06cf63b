/- Powers: the law of what may be configured, in plain words. Plain theorems, no condition. -/
import Derived.Test.YtnelgpgmggcdcaaPP8
import Derived.Test.YtnelgpgmggcdcaaPm1
set_option linter.unusedVariables false
set_option linter.unusedSimpArgs false
namespace Go.Proofs.Ytnelgpgmggcdcaa
open Go.RowKit

theorem p23_l1_eq {M : List It} (h : WT M) (h128 : M.length ≤ 128) {n : Nat} (hn : 600 ≤ n) {x1 : Nat} {x2 : Int} {l34 : List It} {y39 y47 y55 : It}
    (hM : (((l34.set x1 (y39.1, y39.2.1, y39.2.2.1, y39.2.2.2.1, true, y39.2.2.2.2.2.1, y39.2.2.2.2.2.2)).set x1 (y47.1, y47.2.1, y47.2.2.1, y47.2.2.2.1, y47.2.2.2.2.1, false, y47.2.2.2.2.2.2)).set x1 (y55.1, y55.2.1, y55.2.2.1, y55.2.2.2.1, y55.2.2.2.2.1, y55.2.2.2.2.2.1, x2)) = M) :
    ∀ (m : Nat) (c : Int), -1 ≤ c → c < M.length → c + 1 < m → p23_l1 n x1 x2 l34 y39 y47 y55 m c = some (if (chain M 200 c).all (fun k => !ov false M k) then .inl () else .inr 0)
  | 0, c, h1, _, h3 => absurd h3 (by omega)
  | m + 1, c, h1, h2, h3 => by
    have hl := h.len
    unfold p23_l1
    rw [Int.toNat_natCast, hM]
    by_cases h0 : c = -1
    · subst h0; rfl
    · obtain ⟨k, rfl⟩ : ∃ k : Nat, c = k := ⟨c.toNat, by omega⟩
      have hk : k < M.length := by omega
      have hu := h.up1 k hk
      have ec : chain M 200 (k : Int) = k :: chain M 200 (up (g M k)) := by
        conv => lhs; unfold chain
        rw [if_pos (by omega), Int.toNat_natCast, chain_eq h 199 200 _ (by omega) (by omega) (by omega)]
      rw [if_pos (decide_eq_true (show (k : Int) ≥ 0 by omega)), p10_none h h128 hn hk, Option.bind_some, p11_eq h n hk, Option.bind_some, ← ov_false h hk, ec, List.all_cons]
      cases ho : ov false M k with
      | true => rfl
      | false =>
        rw [if_neg (by decide), idx_g hk, Option.bind_some, show (g M k).1 = up (g M k) from rfl, p23_l1_eq h h128 hn hM m _ (by omega) (by omega) (by omega)]
        rfl
theorem p23_bad {l : List It} {cp : Option Nat} (h : Good l) {n : Nat} (hn : 300 ≤ n) {i nd : Int} (hb : ¬ ∃ k : Nat, i = k ∧ Ask l k nd) : p23 n ⟨l, cp⟩ i nd = some 2 := by
  have hw := h.wt
  unfold p23
  rw [lenI_mk, orS, Option.bind_some, orS, Option.bind_some, orS, Option.bind_some]
  by_cases hc : (decide (i < 0) || decide (i ≥ (l.length : Int)) || decide (nd < 0) || decide (nd > 500)) = true
  · rw [hc, if_pos rfl]
  · have hc' : (decide (i < 0) || decide (i ≥ (l.length : Int)) || decide (nd < 0) || decide (nd > 500)) = false := by simpa using hc
    rw [hc', if_neg (by decide)]
    simp only [Bool.or_eq_false_iff, decide_eq_false_iff_not] at hc'
    obtain ⟨k, rfl⟩ : ∃ k : Nat, i = k := ⟨i.toNat, by omega⟩
    have hk : k < l.length := by omega
    have hu := hw.up1 k hk
    rw [p26_eq hw hn hk, Option.bind_some]
    cases hl : lit l k with
    | false => rfl
    | true =>
      rw [if_pos rfl, show idx (⟨l, cp⟩ : Sl It).xs (k : Int) = some (g l k) from idx_g hk, show ((1 : Int) == 0) = false from rfl, if_pos rfl, Option.bind_some, Option.bind_some, show (g l k).1 = up (g l k) from rfl]
      by_cases h0 : 0 ≤ up (g l k)
      · obtain ⟨u, hu'⟩ : ∃ u : Nat, up (g l k) = u := ⟨(up (g l k)).toNat, by omega⟩
        rw [if_pos (decide_eq_true h0), hu', idx_g (show u < l.length by omega), Option.bind_some, Option.bind_some, Option.bind_some]
        cases hs : sleep (g l u) with
        | true => rw [show (g l u).2.2.2.2.2.1 = true from hs, if_pos rfl]
        | false => exact absurd ⟨k, rfl, hk, ⟨by omega, by omega⟩, hl, fun _ => by rw [hu', Int.toNat_natCast]; exact hs⟩ hb
      · exact absurd ⟨k, rfl, hk, ⟨by omega, by omega⟩, hl, fun h1 => absurd h1 h0⟩ hb
theorem p23_ok {l : List It} {cp : Option Nat} (h : Good l) {n : Nat} (hn : 600 ≤ n) {k : Nat} {nd : Int} (hA : Ask l k nd) : p23 n ⟨l, cp⟩ k nd = some (if admB l k nd then 1 else 0) := by
  have hw := h.wt
  have hlen := h.len
  obtain ⟨hk, hnd, hl, ha⟩ := hA
  have hu := hw.up1 k hk
  unfold p23
  rw [lenI_mk, orS, Option.bind_some, orS, Option.bind_some, orS, Option.bind_some]
  rw [show (decide ((k : Int) < 0) || decide ((k : Int) ≥ (l.length : Int)) || decide (nd < 0) || decide (nd > 500)) = false by simp only [Bool.or_eq_false_iff, decide_eq_false_iff_not]; omega]
  rw [if_neg (by decide), p26_eq hw (by omega) hk, Option.bind_some, hl, if_pos rfl, show idx (⟨l, cp⟩ : Sl It).xs (k : Int) = some (g l k) from idx_g hk, show ((1 : Int) == 0) = false from rfl, if_pos rfl, Option.bind_some, Option.bind_some]
  have eq : ((if decide ((g l k).1 ≥ 0) = true then (idx (⟨l, cp⟩ : Sl It).xs (g l k).1).bind fun y_24 => some y_24.2.2.2.2.2.1 else some false)) = some false := by
    rw [show (g l k).1 = up (g l k) from rfl]
    by_cases h0 : 0 ≤ up (g l k)
    · obtain ⟨u, hu'⟩ : ∃ u : Nat, up (g l k) = u := ⟨(up (g l k)).toNat, by omega⟩
      have := ha h0
      rw [hu', Int.toNat_natCast] at this
      rw [if_pos (decide_eq_true h0), hu', show idx (⟨l, cp⟩ : Sl It).xs (u : Int) = some (g l u) from idx_g (show u < l.length by omega), Option.bind_some, show (g l u).2.2.2.2.2.1 = false from this]
    · rw [if_neg (by rw [decide_eq_true_eq]; exact h0)]
  rw [eq, Option.bind_some, Option.bind_some, if_neg (by decide), appI_ok (by show (0 : Nat) + l.length ≤ _; omega), Option.bind_some, List.nil_append]
  have is : ∀ z : It, idx (l.set k z) (k : Int) = some z := fun z => by rw [idx_nat]; simp [hk]
  dsimp only
  rw [idx_g hk, Option.bind_some, Int.toNat_natCast, is, Option.bind_some, List.set_set, is, Option.bind_some]
  have hm := wt_conf hw hk hnd
  have hlike := like_conf hk nd
  have hkm : k < (l.set k (conf (g l k) nd)).length := by rw [hlike.len]; exact hk
  rw [p23_l1_eq hm (by rw [hlike.len]; omega) hn (by rw [List.set_set, List.set_set]; rfl) n (k : Int) (by omega) (by omega) (by omega), Option.bind_some]
  have ec : chain (l.set k (conf (g l k) nd)) 200 (k : Int) = k :: anc l k := by
    conv => lhs; unfold chain
    rw [if_pos (by omega), Int.toNat_natCast, ← hlike.anc]
    unfold anc
    have := hm.up1 k hkm
    rw [chain_eq hm 199 200 _ (by omega) (by omega) (by omega)]
  rw [ec, List.all_cons]
  unfold admB
  cases ov false (l.set k (conf (g l k) nd)) k <;> cases (anc l k).all (fun q => !ov false (l.set k (conf (g l k) nd)) q) <;> rfl
theorem p5_law {x : Sl (Int × Int × Int × Int)} {i nd : Int} (F : Fine (.sl (.st (.pair (.int .u8) (.pair (.int .u8) (.pair (.int .u8) (.int .u16)))))) x) (G1 : InR .i64 i) (G2 : InR .i64 nd) : p5 6000 x i nd = some true := by
  obtain ⟨l, h1, h, h40⟩ := p9_ok (n := 6000) (by decide) (In9_of F)
  have hw := h.wt
  unfold p5
  rw [h1, Option.bind_some]
  dsimp only
  by_cases hA : ∃ k : Nat, i = k ∧ Ask l k nd
  · obtain ⟨k, rfl, hA⟩ := hA
    have hA2 : Ask l k (nd / 2) := by
      obtain ⟨a, b, c, d⟩ := hA
      exact ⟨a, ⟨Int.ediv_nonneg b.1 (by decide), by have := Int.ediv_le_self 2 b.1; omega⟩, c, d⟩
    have hb := hA.2.1
    rw [p22_ok h (by decide) hA, Option.bind_some, p23_ok h (by decide) hA, Option.bind_some, if_neg (by cases admB l k nd <;> decide)]
    dsimp only
    rw [show (if ((0 : Int) != 0) = false then some (!(admB l k nd == ((if admB l k nd = true then (1 : Int) else 0) == 1))) else some true) = some false by cases admB l k nd <;> rfl, Option.bind_some, if_neg (by decide), quoS hb.1 (by decide) (by omega), Option.bind_some, p22_ok h (by decide) hA2, Option.bind_some]
    dsimp only
    rw [show (if ((0 : Int) == 0) = true then (if admB l k (nd / 2) = false then some (!admB l k nd) else some true).bind fun q_36 => some q_36 else some false) = some true by
      cases h1 : admB l k (nd / 2)
      · cases h2 : admB l k nd
        · rfl
        · rw [adm_mono hw hA.1 (by have := Int.ediv_le_self 2 hb.1; omega) h2] at h1; cases h1
      · rfl, Option.bind_some, if_pos rfl, lives]
    rfl
  · rw [p22_bad h (by decide) hA, Option.bind_some, p23_bad h (by decide) hA, Option.bind_some, if_pos (by rfl)]
    dsimp only
    rw [lives]
    rfl
end Go.Proofs.Ytnelgpgmggcdcaa
