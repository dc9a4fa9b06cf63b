/- Powers in plain words: what is cut. Plain theorems, no condition. -/
import Derived.Test.YtnelgpgmggcdcaaPP7
set_option linter.unusedVariables false
set_option linter.unusedSimpArgs false
namespace Go.Proofs.Ytnelgpgmggcdcaa
open Go.RowKit

/-- Item i is cut. -/
def cutB (l : List It) (i : Nat) : Bool := ov true l i || (anc l i).any (ov true l)
theorem cutB_eq {l : List It} (h : WT l) {i : Nat} (hi : i < l.length) : cutB l i = (ov true l i || (decide (0 ≤ up (g l i)) && cutB l (up (g l i)).toNat)) := by
  unfold cutB
  rw [anc_eq h hi]
  by_cases h0 : 0 ≤ up (g l i)
  · rw [if_pos h0, decide_eq_true h0, List.any_cons, Bool.true_and]
  · rw [if_neg h0, decide_eq_false h0]; rfl
theorem p20_l1_eq {l : List It} {cp : Option Nat} (h : WT l) (n : Nat) : ∀ (m k : Nat), k ≤ l.length → l.length - k < m → p20_l1 n ⟨l, cp⟩ m k (tab l.length fun j => if j < k then cutB l j else ov true l j) = some (tab l.length (cutB l)) := by
  intro m
  induction m with
  | zero => intro k _ h; exact absurd h (by omega)
  | succ m ih =>
    intro k hk hm
    have hl := h.len
    unfold p20_l1
    rw [lenI_mk]
    by_cases hlt : k < l.length
    · have hu := h.up1 k hlt
      rw [if_pos (decide_eq_true (show (k : Int) < (l.length : Int) by omega)), show idx (⟨l, cp⟩ : Sl It).xs (k : Int) = some (g l k) from idx_g hlt, Option.bind_some, tab_idx _ hlt, Option.bind_some, if_neg (Nat.lt_irrefl k)]
      have e : (if ov true l k = false then (if ((g l k).1 != (-1)) = true then (idx (tab l.length fun j => if j < k then cutB l j else ov true l j) (g l k).1).bind fun y_54 => some y_54 else some false).bind fun q_51 => some q_51 else some true) = some (cutB l k) := by
        rw [cutB_eq h hlt, show (g l k).1 = up (g l k) from rfl]
        cases ov true l k with
        | true => rfl
        | false =>
          by_cases h0 : up (g l k) = -1
          · rw [h0]; rfl
          · obtain ⟨u, hu'⟩ : ∃ u : Nat, up (g l k) = u := ⟨(up (g l k)).toNat, by omega⟩
            rw [hu', if_pos rfl, if_pos (by simp), tab_idx _ (show u < l.length by omega), Option.bind_some, Option.bind_some, if_pos (by omega), decide_eq_true (show (0 : Int) ≤ (u : Int) by omega), Int.toNat_natCast]
            rfl
      rw [e, Option.bind_some, Option.bind_some, ckS (by omega) (by omega), Option.bind_some, Int.toNat_natCast, tab_set, show ((k : Int) + 1) = ((k + 1 : Nat) : Int) by simp]
      rw [show (tab l.length fun j => if j = k then cutB l k else if j < k then cutB l j else ov true l j) = tab l.length fun j => if j < k + 1 then cutB l j else ov true l j from tab_congr fun j _ => by
        by_cases e : j = k
        · subst e; rw [if_pos rfl, if_pos (by omega)]
        · by_cases e2 : j < k
          · rw [if_neg e, if_pos e2, if_pos (by omega)]
          · rw [if_neg e, if_neg e2, if_neg (by omega)]]
      exact ih (k + 1) (by omega) (by omega)
    · obtain rfl : k = l.length := by omega
      rw [if_neg (by rw [decide_eq_true_eq]; omega)]
      exact congrArg some (tab_congr fun j hj => if_pos hj)
theorem p20_good {l : List It} {cp : Option Nat} (h : Good l) {n : Nat} (hn : 300 ≤ n) : p20 n ⟨l, cp⟩ = some (⟨selF (cutB l) l.length, some (selF (cutB l) l.length).length⟩, 0) := by
  have hl := h.len
  unfold p20
  rw [p17_good h hn, Option.bind_some, if_neg (by decide), p27_eq h.wt hn, Option.bind_some]
  dsimp only
  rw [show tab l.length (ov true l) = tab l.length fun j => if j < 0 then cutB l j else ov true l j from tab_congr fun j _ => (if_neg (by omega)).symm]
  have e : p20_l1 n ⟨l, cp⟩ n 0 (tab l.length fun j => if j < 0 then cutB l j else ov true l j) = _ := p20_l1_eq (cp := cp) h.wt n n 0 (Nat.zero_le _) (by omega)
  rw [e, Option.bind_some, p29_eq hn (by omega), Option.bind_some]
end Go.Proofs.Ytnelgpgmggcdcaa
