/- Powers in plain words: what the functions return for trees that fit. Plain theorems, no condition. -/
import Derived.Test.YtnelgpgmggcdcaaPP6
import Derived.Test.YtnelgpgmggcdcaaXE16
set_option linter.unusedVariables false
set_option linter.unusedSimpArgs false
namespace Go.Proofs.Ytnelgpgmggcdcaa
open Go.RowKit

theorem tab_succ {α : Type} (k : Nat) (f : Nat → α) : tab (k + 1) f = tab k f ++ [f k] := by simp [tab, List.range_succ]
/-- The numbers below k that f holds of. -/
def selF (f : Nat → Bool) (k : Nat) : List Int := ((List.range k).filter f).map fun (i : Nat) => (i : Int)
theorem selF_succ (f : Nat → Bool) (k : Nat) : selF f (k + 1) = selF f k ++ if f k then [(k : Int)] else [] := by
  unfold selF
  rw [List.range_succ, List.filter_append, List.map_append]
  congr 1
  cases h : f k <;> simp [List.filter_cons, h]
theorem selF_len (f : Nat → Bool) (k : Nat) : (selF f k).length ≤ k := by
  unfold selF
  rw [List.length_map]
  have := List.length_filter_le f (List.range k)
  rw [List.length_range] at this
  exact this
theorem selF_congr {f f' : Nat → Bool} {k : Nat} (h : ∀ j, j < k → f j = f' j) : selF f k = selF f' k := by
  unfold selF
  rw [List.filter_congr fun j hj => h j (List.mem_range.1 hj)]
theorem p34_eq (n : Nat) (l : List Int) (c : Option Nat) : p34 n ⟨l, c⟩ = some ⟨l, some l.length⟩ := by
  unfold p34 sl3I
  rw [lenI_mk, if_pos (show (0 : Int) ≤ 0 ∧ (0 : Int) ≤ (l.length : Int) ∧ (l.length : Int) ≤ (l.length : Int) ∧ (l.length : Int) ≤ (l.length : Int) by omega), Option.bind_some]
  simp
theorem p29_l1_eq (n : Nat) {N : Nat} (hN : N ≤ 200) (f : Nat → Bool) (c : Option Nat) : ∀ (m k : Nat), k ≤ N → N - k < m → p29_l1 n ⟨tab N f, c⟩ m k (selF f k) = some (selF f N)
  | 0, k, _, h => absurd h (by omega)
  | m + 1, k, hk, hm => by
    unfold p29_l1
    rw [lenI_mk, tab_len]
    by_cases hlt : k < N
    · have hs := selF_len f k
      have e : (if f k = true then (appI (selF f k) [(k : Int)]).bind fun l_32 => some l_32 else some (selF f k)) = some (selF f (k + 1)) := by
        rw [selF_succ]
        cases h : f k
        · rw [if_neg (by decide), if_neg (by decide), List.append_nil]
        · rw [if_pos rfl, if_pos rfl, appI_ok (by rw [List.length_singleton]; omega), Option.bind_some]
      rw [if_pos (decide_eq_true (show (k : Int) < (N : Int) by omega)), show idx (⟨tab N f, c⟩ : Sl Bool).xs (k : Int) = some (f k) from tab_idx f hlt, Option.bind_some, e, Option.bind_some, ckS (by omega) (by omega), Option.bind_some, show ((k : Int) + 1) = ((k + 1 : Nat) : Int) by simp]
      exact p29_l1_eq n hN f c m (k + 1) (by omega) (by omega)
    · obtain rfl : k = N := by omega
      rw [if_neg (by rw [decide_eq_true_eq]; omega)]
theorem p29_eq {n : Nat} (hn : 300 ≤ n) {N : Nat} (hN : N ≤ 200) (f : Nat → Bool) (c : Option Nat) : p29 n ⟨tab N f, c⟩ = some ⟨selF f N, some (selF f N).length⟩ := by
  unfold p29
  rw [show (0 : Int) = ((0 : Nat) : Int) from rfl, show ([] : List Int) = selF f 0 from rfl, p29_l1_eq n hN f c n 0 (Nat.zero_le _) (by omega), Option.bind_some, p34_eq]
  rfl
theorem p14_good {l : List It} {cp : Option Nat} (h : Good l) {n : Nat} (hn : 300 ≤ n) : p14 n ⟨l, cp⟩ = some (⟨tab l.length (TL false l), some l.length⟩, 0) := by
  unfold p14
  rw [p17_good h hn, Option.bind_some, if_neg (by decide), p27_eq h.wt hn, Option.bind_some]
theorem p15_l1_eq {l : List It} {cp : Option Nat} (h : WT l) (n : Nat) : ∀ (m k : Nat), k ≤ l.length → l.length - k < m → p15_l1 n ⟨l, cp⟩ m k (tab l.length fun j => if j < k then lim l j else 0) = some (tab l.length (lim l))
  | 0, k, _, h => absurd h (by omega)
  | m + 1, k, hk, hm => by
    have hl := h.len
    unfold p15_l1
    rw [lenI_mk]
    by_cases hlt : k < l.length
    · rw [if_pos (decide_eq_true (show (k : Int) < (l.length : Int) by omega)), p28_eq h n hlt, Option.bind_some, tab_idx _ hlt, Option.bind_some, ckS (by omega) (by omega), Option.bind_some, Int.toNat_natCast, tab_set, show ((k : Int) + 1) = ((k + 1 : Nat) : Int) by simp]
      rw [show (tab l.length fun j => if j = k then lim l k else if j < k then lim l j else 0) = tab l.length fun j => if j < k + 1 then lim l j else 0 from tab_congr fun j _ => by
        by_cases e : j = k
        · subst e; rw [if_pos rfl, if_pos (by omega)]
        · by_cases e2 : j < k
          · rw [if_neg e, if_pos e2, if_pos (by omega)]
          · rw [if_neg e, if_neg e2, if_neg (by omega)]]
      exact p15_l1_eq h n m (k + 1) (by omega) (by omega)
    · obtain rfl : k = l.length := by omega
      rw [if_neg (by rw [decide_eq_true_eq]; omega)]
      exact congrArg some (tab_congr fun j hj => if_pos hj)
theorem p15_good {l : List It} {cp : Option Nat} (h : Good l) {n : Nat} (hn : 300 ≤ n) : p15 n ⟨l, cp⟩ = some (⟨tab l.length (lim l), some l.length⟩, 0) := by
  have hl := h.len
  unfold p15
  rw [p17_good h hn, Option.bind_some, if_neg (by decide), lenI_mk, mkI_ok (by omega) (by omega) (by omega), Option.bind_some, Int.toNat_natCast]
  rw [show List.replicate l.length (0 : Int) = tab l.length fun j => if j < 0 then lim l j else 0 by rw [tab_replicate]; exact tab_congr fun j _ => (if_neg (by omega)).symm]
  have e : p15_l1 n ⟨l, cp⟩ n 0 (tab l.length fun j => if j < 0 then lim l j else 0) = _ := p15_l1_eq (cp := cp) h.wt n n 0 (Nat.zero_le _) (by omega)
  rw [e]
  rfl
theorem p16_good {l : List It} {cp : Option Nat} (h : Good l) {n : Nat} (hn : 300 ≤ n) : p16 n ⟨l, cp⟩ = some (⟨selF (ov false l) l.length, some (selF (ov false l) l.length).length⟩, 0) := by
  have hl := h.len
  unfold p16
  rw [p17_good h hn, Option.bind_some, if_neg (by decide), p27_eq h.wt hn, Option.bind_some]
  dsimp only
  rw [p29_eq hn (by omega), Option.bind_some]
theorem p18_l1_eq (n : Nat) (a : List Int) (c c' : Option Nat) (ha : a.length ≤ 200) : ∀ (m k : Nat), k ≤ a.length → a.length - k < m → p18_l1 n ⟨a, c⟩ ⟨a, c'⟩ m k = some (.inl ())
  | 0, k, _, h => absurd h (by omega)
  | m + 1, k, hk, hm => by
    unfold p18_l1
    rw [lenI_mk]
    by_cases hlt : k < a.length
    · rw [if_pos (decide_eq_true (show (k : Int) < (a.length : Int) by omega)), show idx (⟨a, c⟩ : Sl Int).xs (k : Int) = some (a.getD k 0) from idxD 0 hlt, Option.bind_some, Option.bind_some, if_neg (by simp), ckS (by omega) (by omega), Option.bind_some, show ((k : Int) + 1) = ((k + 1 : Nat) : Int) by simp]
      exact p18_l1_eq n a c c' ha m (k + 1) (by omega) (by omega)
    · rw [if_neg (by rw [decide_eq_true_eq]; omega)]
theorem p18_same {n : Nat} (hn : 300 ≤ n) {a b : List Int} (e : a = b) (ha : a.length ≤ 200) (c : Option Nat) {k : Nat} (hk : k = a.length) : p18 n ⟨a, some k⟩ ⟨b, c⟩ = some true := by
  subst e hk
  unfold p18
  rw [lenI_mk, lenI_mk, if_pos (by simp), show capO (⟨a, some a.length⟩ : Sl Int) = some (a.length : Int) from rfl, Option.bind_some, Option.bind_some, if_neg (by simp), show (0 : Int) = ((0 : Nat) : Int) from rfl, p18_l1_eq n a _ c ha n 0 (Nat.zero_le _) (by omega)]
  rfl
set_option maxRecDepth 1000000 in
theorem lives : p19 6000 = some true := by kernel_rfl
theorem In9_of {x : Sl (Int × Int × Int × Int)} (F : Fine (.sl (.st (.pair (.int .u8) (.pair (.int .u8) (.pair (.int .u8) (.int .u16)))))) x) : In9 x := fun e he => by
  obtain ⟨h1, h2, h3, h4⟩ := F.2.2 e he
  exact ⟨inR_u8.1 h1, inR_u8.1 h2, inR_u8.1 h3, inR_u16.1 h4⟩
theorem lim_ok (l : List It) (i : Nat) : lim l i = 100 ∨ lim l i = 500 := by unfold lim; split <;> simp
theorem lphi_false (l : List It) (i : Nat) (s : Int) : lphi false l i s = s := by unfold lphi; rw [if_neg (fun h => by cases h.1)]
theorem ov_false {l : List It} (h : WT l) {i : Nat} (hi : i < l.length) : ov false l i = decide (TL false l i > lim l i) := by
  have hl := lim_ok l i
  unfold ov
  show _ = decide (T l (lphi false l) i > lim l i)
  rw [T_eq h.len hi, lphi_false]
  cases hlit : lit l i
  · rw [if_neg (by decide), Bool.false_and]; symm; rw [decide_eq_false_iff_not]; omega
  · rw [if_pos rfl, Bool.true_and]
theorem T_none {l : List It} (hl : l.length ≤ 128) {i : Nat} (hi : i < l.length) : T l (mphi (List.replicate 128 0)) i = TL false l i :=
  T_congr (by omega) _ i hi (Nat.le_refl _) fun j s _ hj => by
    rw [lphi_false]
    unfold mphi
    rw [if_neg]
    rw [List.getD_eq_getElem?_getD, List.getElem?_replicate, if_pos (by omega)]
    decide
theorem p10_none {l : List It} {cp : Option Nat} (h : WT l) (hl : l.length ≤ 128) {n i : Nat} (hn : 600 ≤ n) (hi : i < l.length) : p10 n ⟨l, cp⟩ i (List.replicate 128 0) = some (TL false l i) := by
  rw [p10_eq h (by rw [List.length_replicate]; exact hl) (l.length - i) n i hi (Nat.le_refl _) (by omega), T_none hl hi]
end Go.Proofs.Ytnelgpgmggcdcaa
