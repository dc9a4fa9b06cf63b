/- Powers in plain words: what the program's loads compute. Plain theorems, no condition. -/
import Derived.Test.YtnelgpgmggcdcaaPP3
set_option linter.unusedVariables false
set_option linter.unusedSimpArgs false
namespace Go.Proofs.Ytnelgpgmggcdcaa
open Go.RowKit

/-- A list told by its elements. -/
def tab {α : Type} (n : Nat) (f : Nat → α) : List α := (List.range n).map f
theorem tab_len {α : Type} (n : Nat) (f : Nat → α) : (tab n f).length = n := by simp [tab]
theorem tab_idx {α : Type} {n : Nat} (f : Nat → α) {k : Nat} (h : k < n) : idx (tab n f) (k : Int) = some (f k) := by
  rw [idx_nat]; simp [tab, h]
theorem tab_set {α : Type} (n : Nat) (f : Nat → α) (k : Nat) (v : α) : (tab n f).set k v = tab n fun j => if j = k then v else f j := by
  refine List.ext_getElem? fun j => ?_
  rw [List.getElem?_set]
  by_cases hj : j < n
  · by_cases hk : k = j
    · subst hk; simp [tab, hj]
    · have : ¬ j = k := fun e => hk e.symm
      simp [tab, hj, hk, this]
  · have h1 : (List.range n)[j]? = none := by simp; omega
    by_cases hk : k = j
    · subst hk; simp [tab, hj]
    · simp [tab, hk, h1]
theorem tab_congr {α : Type} {n : Nat} {f g : Nat → α} (h : ∀ j, j < n → f j = g j) : tab n f = tab n g := List.map_congr_left fun j hj => h j (List.mem_range.1 hj)
theorem tab_replicate {α : Type} (n : Nat) (z : α) : List.replicate n z = tab n fun _ => z := by
  refine List.ext_getElem? fun j => ?_
  by_cases hj : j < n <;> simp [tab, hj, List.getElem?_replicate]
theorem T_congr {l : List It} (hl : l.length ≤ 200) {phi psi : Nat → Int → Int} : ∀ (f i : Nat), i < l.length → l.length - i ≤ f → (∀ j s, i ≤ j → j < l.length → phi j s = psi j s) → T l phi i = T l psi i
  | 0, i, hi, hf, _ => absurd hf (by omega)
  | f + 1, i, hi, hf, h => by
    rw [T_eq hl hi, T_eq hl hi]
    have : raw l phi i = raw l psi i := by
      unfold raw
      rw [sumP_congr (q := kid l i) (k := T l psi) _ _ fun j a b => ⟨Iff.rfl, fun _ => T_congr hl f j (by omega) (by omega) fun j' s h1 h2 => h j' s (by omega) h2⟩]
    rw [this, h i _ (Nat.le_refl _) hi]
theorem raw_congr {l : List It} (hl : l.length ≤ 200) {phi psi : Nat → Int → Int} {i : Nat} (h : ∀ j s, i < j → j < l.length → phi j s = psi j s) : raw l phi i = raw l psi i := by
  unfold raw
  rw [sumP_congr (q := kid l i) (k := T l psi) _ _ fun j a b => ⟨Iff.rfl, fun _ => T_congr hl _ j (by omega) (Nat.le_refl _) fun j' s h1 h2 => h j' s (by omega) h2⟩]
/-- What loads takes: with cut, what is over takes nothing. -/
def lphi (cut : Bool) (l : List It) (i : Nat) (s : Int) : Int := if cut = true ∧ s > lim l i then 0 else s
theorem lphi_ok (cut : Bool) (l : List It) : Phi (lphi cut l) := fun i s h => by unfold lphi; split <;> omega
abbrev TL (cut : Bool) (l : List It) : Nat → Int := T l (lphi cut l)
def ov (cut : Bool) (l : List It) (i : Nat) : Bool := lit l i && decide (raw l (lphi cut l) i > lim l i)
/-- What loads holds when the items from k on are done. -/
def outF (cut : Bool) (l : List It) (k j : Nat) : Int := if k ≤ j then TL cut l j else if self (g l j) then 0 else sumP (kid l j) (TL cut l) (l.length - k) k
def ovF (cut : Bool) (l : List It) (k j : Nat) : Bool := decide (k ≤ j) && ov cut l j
theorem lit_eq {l : List It} (h : WT l) {i : Nat} (hi : i < l.length) : lit l i = if 0 ≤ up (g l i) then ready (g l (up (g l i)).toNat) && lit l (up (g l i)).toNat else true := by
  unfold lit
  rw [anc_eq h hi]
  split <;> rfl
theorem kid_unlit {l : List It} (h : WT l) {i j : Nat} (hj : j < l.length) (hk : kid l i j) (hu : lit l i = false) : lit l j = false := by
  have hk : up (g l j) = (i : Int) := hk
  rw [lit_eq h hj, hk, if_pos (by omega), Int.toNat_natCast, hu, Bool.and_false]
theorem sumP_zero {p : Nat → Prop} [DecidablePred p] {h : Nat → Int} : ∀ (n a : Nat), (∀ j, a ≤ j → j < a + n → p j → h j = 0) → sumP p h n a = 0
  | 0, _, _ => rfl
  | n + 1, a, e => by
    unfold sumP
    rw [sumP_zero n (a + 1) fun j h1 h2 => e j (by omega) (by omega)]
    split
    · rename_i hp; rw [e a (Nat.le_refl _) (by omega) hp]; rfl
    · rfl
theorem T_unlit {l : List It} (h : WT l) {phi : Nat → Int → Int} {i : Nat} (hi : i < l.length) (hu : lit l i = false) : T l phi i = 0 := by
  rw [T_eq h.len hi, hu]; rfl
theorem outF_next {cut : Bool} {l : List It} {k j : Nat} (hk : k < l.length) (hjk : j < k) : outF cut l k j = outF cut l (k + 1) j + if self (g l j) then 0 else if kid l j k then TL cut l k else 0 := by
  unfold outF
  rw [if_neg (show ¬ k ≤ j by omega), if_neg (show ¬ k + 1 ≤ j by omega)]
  cases hs : self (g l j)
  · simp only [Bool.false_eq_true, if_false]; rw [nat_sub_succ hk, sumP_some]; omega
  · simp
theorem outF_same {cut : Bool} {l : List It} {k j : Nat} (hjk : k < j) : outF cut l k j = outF cut l (k + 1) j := by
  unfold outF; rw [if_pos (by omega), if_pos (by omega)]
theorem ovF_other {cut : Bool} {l : List It} {k j : Nat} (hjk : j ≠ k) : ovF cut l k j = ovF cut l (k + 1) j := by
  unfold ovF
  congr 1
  by_cases h : k ≤ j
  · rw [decide_eq_true h, decide_eq_true (by omega)]
  · rw [decide_eq_false h, decide_eq_false (by omega)]
theorem p27_r1_eq {l : List It} {cp : Option Nat} (h : WT l) {n : Nat} (hn : 300 ≤ n) (cut : Bool) {k : Nat} (hk : k < l.length) (y : It) :
    p27_r1 n ⟨l, cp⟩ cut (tab l.length (outF cut l (k + 1)), tab l.length (ovF cut l (k + 1))) ((k : Int), y) = some (0, (tab l.length (outF cut l k), tab l.length (ovF cut l k))) := by
  unfold p27_r1
  dsimp only
  rw [p31_eq h hn hk, Option.bind_some]
  have hu := h.up1 k hk
  cases hlit : lit l k with
  | false =>
    rw [if_pos (by rfl)]
    congr 3
    · refine tab_congr fun j hj => ?_
      rcases Nat.lt_trichotomy j k with hjk | hjk | hjk
      · rw [outF_next hk hjk, show TL cut l k = 0 from T_unlit h hk hlit]; simp
      · subst hjk
        unfold outF
        rw [if_neg (by omega), if_pos (Nat.le_refl _), show TL cut l j = 0 from T_unlit h hk hlit, sumP_zero _ _ fun i a b hp => T_unlit h (by omega) (kid_unlit h (by omega) hp hlit)]
        split <;> rfl
      · exact (outF_same hjk).symm
    · refine tab_congr fun j hj => ?_
      by_cases hjk : j = k
      · subst hjk; unfold ovF ov; rw [hlit]; simp
      · exact (ovF_other hjk).symm
  | true =>
    have hraw : outF cut l (k + 1) k + own (g l k) = raw l (lphi cut l) k := by
      unfold outF raw
      rw [if_neg (show ¬ k + 1 ≤ k by omega)]
      show _ + _ = _ + (if self (g l k) = true then 0 else sumP (kid l k) (TL cut l) (l.length - (k + 1)) (k + 1))
      omega
    have hr0 := raw_nonneg h (lphi_ok cut l) hk
    have hr1 := raw_le h (lphi_ok cut l) hk
    have hT : TL cut l k = lphi cut l k (raw l (lphi cut l) k) := by show T l _ k = _; rw [T_eq h.len hk, hlit]; rfl
    rw [if_neg (by decide)]
    simp only [tab_idx _ hk, Option.bind_some, idx_g hk, p12_eq, hraw, ckS (show -9223372036854775808 ≤ raw l (lphi cut l) k by omega) (by omega), Int.toNat_natCast, tab_set, if_true, p28_eq h n hk]
    have hq : ∀ (b : Bool), (if b = true then some cut else some false) = some (b && cut) := fun b => by cases b <;> rfl
    rw [hq, Option.bind_some]
    have hj : (if (decide (raw l (lphi cut l) k > lim l k) && cut) = true then some (tab l.length fun j => if j = k then 0 else if j = k then raw l (lphi cut l) k else outF cut l (k + 1) j) else some (tab l.length fun j => if j = k then raw l (lphi cut l) k else outF cut l (k + 1) j)) = some (tab l.length fun j => if j = k then TL cut l k else outF cut l (k + 1) j) := by
      have hlp : TL cut l k = if cut = true ∧ raw l (lphi cut l) k > lim l k then 0 else raw l (lphi cut l) k := hT
      rw [hlp]
      by_cases hc : cut = true ∧ raw l (lphi cut l) k > lim l k
      · rw [if_pos (by rw [decide_eq_true hc.2, Bool.true_and]; exact hc.1)]
        congr 1
        refine tab_congr fun j _ => ?_
        by_cases hjk : j = k
        · rw [if_pos hjk, if_pos hjk, if_pos hc]
        · rw [if_neg hjk, if_neg hjk, if_neg hjk]
      · rw [if_neg (fun e => hc (by
          rw [Bool.and_eq_true] at e
          exact ⟨e.2, of_decide_eq_true e.1⟩))]
        congr 1
        refine tab_congr fun j _ => ?_
        by_cases hjk : j = k
        · rw [if_pos hjk, if_pos hjk, if_neg hc]
        · rw [if_neg hjk, if_neg hjk]
    rw [hj, Option.bind_some]
    rw [show (g l k).1 = up (g l k) from rfl]
    have hov : (tab l.length fun j => if j = k then decide (raw l (lphi cut l) k > lim l k) else ovF cut l (k + 1) j) = tab l.length (ovF cut l k) := tab_congr fun j _ => by
      by_cases hjk : j = k
      · subst hjk; rw [if_pos rfl]; unfold ovF ov; rw [hlit, decide_eq_true (Nat.le_refl _)]; rfl
      · rw [if_neg hjk]; exact (ovF_other hjk).symm
    rw [hov]
    have hT0 : 0 ≤ TL cut l k := T_nonneg h (lphi_ok cut l) hk
    have hT1 : TL cut l k ≤ 100500 := T_le h (lphi_ok cut l) hk
    by_cases h0 : up (g l k) = -1
    · rw [if_neg (by rw [h0]; decide), Option.bind_some, if_neg (by decide), Option.bind_some]
      congr 3
      refine tab_congr fun j hj => ?_
      rcases Nat.lt_trichotomy j k with hjk | hjk | hjk
      · rw [if_neg (by omega), outF_next hk hjk, if_neg (c := kid l j k) (fun e => by have e : up (g l k) = (j : Int) := e; omega)]; simp
      · subst hjk; rw [if_pos rfl]; unfold outF; rw [if_pos (Nat.le_refl _)]
      · rw [if_neg (by omega), outF_same hjk]
    · obtain ⟨u, hu'⟩ : ∃ u : Nat, up (g l k) = (u : Int) := ⟨(up (g l k)).toNat, by omega⟩
      have huk : u < k := by omega
      rw [hu', if_pos (by simp), idx_g (show u < l.length by omega), Option.bind_some, Option.bind_some, show (g l u).2.2.2.1 = self (g l u) from rfl]
      cases hs : self (g l u) with
      | true =>
        rw [if_neg (by decide), Option.bind_some]
        congr 3
        refine tab_congr fun j hj => ?_
        rcases Nat.lt_trichotomy j k with hjk | hjk | hjk
        · rw [if_neg (by omega), outF_next hk hjk]
          by_cases hju : j = u
          · subst hju; rw [hs]; simp
          · rw [if_neg (c := kid l j k) (fun e => by have e : up (g l k) = (j : Int) := e; omega)]; simp
        · subst hjk; rw [if_pos rfl]; unfold outF; rw [if_pos (Nat.le_refl _)]
        · rw [if_neg (by omega), outF_same hjk]
      | false =>
        have hsu : outF cut l (k + 1) u = sumP (kid l u) (TL cut l) (l.length - (k + 1)) (k + 1) := by
          unfold outF; rw [if_neg (by omega), hs]; rfl
        have hb1 : sumP (kid l u) (TL cut l) (l.length - (k + 1)) (k + 1) ≤ 100000 := kids_le h (lphi_ok cut l) (by omega) (by omega)
        have hb0 : 0 ≤ sumP (kid l u) (TL cut l) (l.length - (k + 1)) (k + 1) := sumP_nonneg _ _ fun j a b => T_nonneg h (lphi_ok cut l) (by omega)
        rw [ifNot, tab_idx _ (show u < l.length by omega), Option.bind_some, tab_idx _ hk, Option.bind_some, if_neg (show ¬ u = k by omega), if_pos rfl, hsu, ckS (by omega) (by omega), Option.bind_some, Option.bind_some, Option.bind_some, Int.toNat_natCast, tab_set]
        congr 3
        refine tab_congr fun j hj => ?_
        rcases Nat.lt_trichotomy j k with hjk | hjk | hjk
        · rw [outF_next hk hjk]
          by_cases hju : j = u
          · subst hju; rw [if_pos rfl, hsu, hs, if_neg (by decide), if_pos (show kid l j k from hu')]
          · rw [if_neg hju, if_neg (by omega), if_neg (c := kid l j k) (fun e => by have e : up (g l k) = (j : Int) := e; omega)]; simp
        · subst hjk; rw [if_neg (by omega), if_pos rfl]; unfold outF; rw [if_pos (Nat.le_refl _)]
        · rw [if_neg (by omega), if_neg (by omega), outF_same hjk]
theorem p38_l1_eq {l : List It} {cp : Option Nat} (h : WT l) {n : Nat} (hn : 300 ≤ n) (cut : Bool) : ∀ (k m : Nat), k ≤ l.length → k < m →
    p38_l1 n (Nat × (List Int × List Bool)) ⟨l, cp⟩ (rnd (p27_r1 n ⟨l, cp⟩ cut)) m ((k : Int) - 1) (0, (tab l.length (outF cut l k), tab l.length (ovF cut l k))) = some (.inl (0, (tab l.length (outF cut l 0), tab l.length (ovF cut l 0))))
  | k, 0, _, h => absurd h (by omega)
  | 0, m + 1, _, _ => by
    unfold p38_l1
    rw [if_neg (by decide)]
  | k + 1, m + 1, hk, hm => by
    have hl := h.len
    unfold p38_l1
    rw [show ((k + 1 : Nat) : Int) - 1 = (k : Int) by omega, if_pos (decide_eq_true (show (k : Int) ≥ 0 by omega)), idx_g (show k < l.length by omega), Option.bind_some]
    have e : rnd (p27_r1 n ⟨l, cp⟩ cut) (0, (tab l.length (outF cut l (k + 1)), tab l.length (ovF cut l (k + 1)))) ((k : Int), g l k) = some (true, (0, (tab l.length (outF cut l k), tab l.length (ovF cut l k)))) := by
      show ((p27_r1 n ⟨l, cp⟩ cut _ ((k : Int), g l k)).map _) = _
      rw [p27_r1_eq h hn cut (by omega)]; rfl
    rw [e, Option.bind_some, ckS (by omega) (by omega), Option.bind_some]
    exact p38_l1_eq h hn cut k m (by omega) (by omega)
theorem p27_eq {l : List It} {cp : Option Nat} (h : WT l) {n : Nat} (hn : 300 ≤ n) (cut : Bool) : p27 n ⟨l, cp⟩ cut = some (⟨tab l.length (TL cut l), some l.length⟩, ⟨tab l.length (ov cut l), some l.length⟩) := by
  have hl := h.len
  unfold p27 p33 p38
  rw [lenI_mk, mkI_ok (by omega) (by omega) (by omega), Option.bind_some, Option.bind_some, Option.bind_some, lenI_mk, ckS (by omega) (by omega), Option.bind_some, Int.toNat_natCast]
  have e1 : List.replicate l.length (0 : Int) = tab l.length (outF cut l l.length) := by
    rw [tab_replicate]
    refine tab_congr fun j hj => ?_
    unfold outF
    rw [if_neg (by omega), Nat.sub_self]
    split <;> rfl
  have e2 : List.replicate l.length false = tab l.length (ovF cut l l.length) := by
    rw [tab_replicate]
    refine tab_congr fun j hj => ?_
    unfold ovF
    rw [decide_eq_false (by omega)]; rfl
  rw [e1, e2, p38_l1_eq h hn cut l.length n (Nat.le_refl _) (by omega)]
  rw [show tab l.length (outF cut l 0) = tab l.length (TL cut l) from tab_congr fun j _ => by unfold outF; rw [if_pos (Nat.zero_le _)],
    show tab l.length (ovF cut l 0) = tab l.length (ov cut l) from tab_congr fun j _ => by unfold ovF; rw [decide_eq_true (Nat.zero_le _)]; rfl]
  rfl
end Go.Proofs.Ytnelgpgmggcdcaa
