/- Powers: the law of loads, in plain words. Plain theorems, no condition. -/
import Derived.Test.YtnelgpgmggcdcaaPP7
import Derived.Test.YtnelgpgmggcdcaaPl1
set_option linter.unusedVariables false
set_option linter.unusedSimpArgs false
namespace Go.Proofs.Ytnelgpgmggcdcaa
open Go.RowKit

theorem p3_l1_eq {l : List It} {cp : Option Nat} (h : Good l) {n : Nat} (hn : 600 ≤ n) : ∀ (m k : Nat), k ≤ l.length → l.length - k < m →
    p3_l1 n ⟨l, cp⟩ m k (selF (ov false l) k) (tab k (lim l)) (tab k (TL false l)) = some (.inl (tab l.length (TL false l), tab l.length (lim l), selF (ov false l) l.length))
  | 0, k, _, h => absurd h (by omega)
  | m + 1, k, hk, hm => by
    have hl := h.len
    unfold p3_l1
    rw [lenI_mk]
    by_cases hlt : k < l.length
    · have hs := selF_len (ov false l) k
      have e : (if decide (TL false l k > lim l k) = true then (appI (selF (ov false l) k) [(k : Int)]).bind fun l_89 => some l_89 else some (selF (ov false l) k)) = some (selF (ov false l) (k + 1)) := by
        rw [selF_succ, ov_false h.wt hlt]
        cases hd : decide (TL false l k > lim l k)
        · rw [if_neg (by decide), if_neg (by decide), List.append_nil]
        · rw [if_pos rfl, if_pos rfl, appI_ok (by rw [List.length_singleton]; omega), Option.bind_some]
      rw [if_pos (decide_eq_true (show (k : Int) < (l.length : Int) by omega)), p10_none h.wt (by omega) hn hlt, Option.bind_some, appI_ok (by rw [tab_len, List.length_singleton]; omega), Option.bind_some, p11_eq h.wt n hlt, Option.bind_some, appI_ok (by rw [tab_len, List.length_singleton]; omega), Option.bind_some, Option.bind_some, e, Option.bind_some, show idx (⟨l, cp⟩ : Sl It).xs (k : Int) = some (g l k) from idx_g hlt, Option.bind_some, p12_eq, Option.bind_some, Option.bind_some, p13_eq, Option.bind_some, if_neg (by simp), ckS (by omega) (by omega), Option.bind_some, show ((k : Int) + 1) = ((k + 1 : Nat) : Int) by simp, ← tab_succ, ← tab_succ]
      exact p3_l1_eq h hn m (k + 1) (by omega) (by omega)
    · obtain rfl : k = l.length := by omega
      rw [if_neg (by rw [decide_eq_true_eq]; show ¬ ((l.length : Int) < (l.length : Int)); omega)]
theorem p3_law {x : Sl (Int × Int × Int × Int)} (F : Fine (.sl (.st (.pair (.int .u8) (.pair (.int .u8) (.pair (.int .u8) (.int .u16)))))) x) : p3 6000 x = some true := by
  obtain ⟨l, h1, h, h40⟩ := p9_ok (n := 6000) (by decide) (In9_of F)
  have hw := h.wt
  unfold p3
  rw [h1, Option.bind_some]
  have e := p3_l1_eq (cp := .none) h (n := 6000) (by decide) 6000 0 (Nat.zero_le _) (by omega)
  rw [show (0 : Int) = ((0 : Nat) : Int) from rfl, show ([] : List Int) = selF (ov false l) 0 from rfl]
  rw [show p3_l1 6000 ⟨l, .none⟩ 6000 ((0 : Nat) : Int) (selF (ov false l) 0) (selF (ov false l) 0) (selF (ov false l) 0) = _ from e, Option.bind_some, lrKl]
  dsimp only
  rw [p14_good h (by decide), Option.bind_some, p15_good h (by decide), Option.bind_some, p16_good h (by decide), Option.bind_some, p17_good h (by decide), Option.bind_some]
  dsimp only
  rw [p18_same (by decide) rfl (by rw [tab_len]; omega) _ (tab_len _ _).symm, p18_same (by decide) rfl (by rw [tab_len]; omega) _ (tab_len _ _).symm, p18_same (by decide) rfl (by have := selF_len (ov false l) l.length; omega) _ rfl, lives]
  rfl
end Go.Proofs.Ytnelgpgmggcdcaa
