/- Powers in plain words: what items take. Plain theorems, no condition. -/
import Derived.Test.YtnelgpgmggcdcaaPP1
set_option linter.unusedVariables false
set_option linter.unusedSimpArgs false
namespace Go.Proofs.Ytnelgpgmggcdcaa
open Go.RowKit

/-- The sum of h over those of the n items from a on that p holds of. -/
def sumP (p : Nat → Prop) [DecidablePred p] (h : Nat → Int) : Nat → Nat → Int
  | 0, _ => 0
  | n + 1, a => (if p a then h a else 0) + sumP p h n (a + 1)
theorem sumP_congr {p q : Nat → Prop} [DecidablePred p] [DecidablePred q] {h k : Nat → Int} : ∀ (n a : Nat), (∀ j, a ≤ j → j < a + n → (p j ↔ q j) ∧ (p j → h j = k j)) → sumP p h n a = sumP q k n a
  | 0, _, _ => rfl
  | n + 1, a, e => by
    unfold sumP
    have h0 := e a (Nat.le_refl _) (by omega)
    rw [sumP_congr n (a + 1) fun j h1 h2 => e j (by omega) (by omega)]
    by_cases hp : p a
    · rw [if_pos hp, if_pos (h0.1.1 hp), h0.2 hp]
    · rw [if_neg hp, if_neg fun k => hp (h0.1.2 k)]
theorem sumP_nonneg {p : Nat → Prop} [DecidablePred p] {h : Nat → Int} : ∀ (n a : Nat), (∀ j, a ≤ j → j < a + n → 0 ≤ h j) → 0 ≤ sumP p h n a
  | 0, _, _ => Int.le_refl _
  | n + 1, a, e => by
    unfold sumP
    have h0 := e a (Nat.le_refl _) (by omega)
    have := sumP_nonneg (p := p) (h := h) n (a + 1) fun j h1 h2 => e j (by omega) (by omega)
    split <;> omega
theorem sumP_split {p q : Nat → Prop} [DecidablePred p] [DecidablePred q] {h : Nat → Int} (hpq : ∀ j, p j → ¬ q j) : ∀ (n a : Nat), sumP (fun j => p j ∨ q j) h n a = sumP p h n a + sumP q h n a
  | 0, _ => rfl
  | n + 1, a => by
    unfold sumP
    rw [sumP_split hpq n (a + 1)]
    by_cases hp : p a
    · rw [if_pos (.inl hp), if_pos hp, if_neg (hpq a hp)]; omega
    · by_cases hq : q a
      · rw [if_pos (.inr hq), if_neg hp, if_pos hq]; omega
      · rw [if_neg (fun k => k.elim hp hq), if_neg hp, if_neg hq]; omega
theorem sumP_mono {p q : Nat → Prop} [DecidablePred p] [DecidablePred q] {h : Nat → Int} : ∀ (n a : Nat), (∀ j, a ≤ j → j < a + n → 0 ≤ h j ∧ (p j → q j)) → sumP p h n a ≤ sumP q h n a
  | 0, _, _ => Int.le_refl _
  | n + 1, a, e => by
    unfold sumP
    have h0 := e a (Nat.le_refl _) (by omega)
    have := sumP_mono (p := p) (q := q) (h := h) n (a + 1) fun j h1 h2 => e j (by omega) (by omega)
    by_cases hp : p a
    · rw [if_pos hp, if_pos (h0.2 hp)]; omega
    · rw [if_neg hp]; split <;> omega
/-- The items that hang on item i. -/
abbrev kid (l : List It) (i : Nat) : Nat → Prop := fun k => up (g l k) = (i : Int)
def TF (l : List It) (phi : Nat → Int → Int) : Nat → Nat → Int
  | 0, _ => 0
  | f + 1, i => if lit l i then phi i (own (g l i) + if self (g l i) then 0 else sumP (kid l i) (TF l phi f) (l.length - (i + 1)) (i + 1)) else 0
theorem TF_eq {l : List It} {phi : Nat → Int → Int} : ∀ (f f' i : Nat), i < l.length → l.length - i ≤ f → l.length - i ≤ f' → TF l phi f i = TF l phi f' i
  | 0, _, i, h, h1, _ => absurd h1 (by omega)
  | _, 0, i, h, _, h1 => absurd h1 (by omega)
  | f + 1, f' + 1, i, h, h1, h2 => by
    unfold TF
    rw [sumP_congr (k := TF l phi f') (l.length - (i + 1)) (i + 1) fun j a b => ⟨Iff.rfl, fun _ => TF_eq f f' j (by omega) (by omega) (by omega)⟩]
/-- What item i takes from its port. -/
def T (l : List It) (phi : Nat → Int → Int) (i : Nat) : Int := TF l phi 300 i
/-- The same, before phi. -/
def raw (l : List It) (phi : Nat → Int → Int) (i : Nat) : Int := own (g l i) + if self (g l i) then 0 else sumP (kid l i) (T l phi) (l.length - (i + 1)) (i + 1)
theorem T_eq {l : List It} (hl : l.length ≤ 200) {phi : Nat → Int → Int} {i : Nat} (hi : i < l.length) : T l phi i = if lit l i then phi i (raw l phi i) else 0 := by
  unfold raw T
  conv => lhs; unfold TF
  rw [sumP_congr (k := TF l phi 300) (l.length - (i + 1)) (i + 1) fun j a b => ⟨Iff.rfl, fun _ => TF_eq 299 300 j (by omega) (by omega) (by omega)⟩]
def Phi (phi : Nat → Int → Int) : Prop := ∀ i s, 0 ≤ s → 0 ≤ phi i s ∧ phi i s ≤ s
theorem own_ok {l : List It} (h : WT l) {i : Nat} (hi : i < l.length) : 0 ≤ own (g l i) ∧ own (g l i) ≤ 500 := by
  have := h.need1 i hi
  unfold own
  split
  · omega
  · split <;> omega
theorem T_ok {l : List It} (h : WT l) {phi : Nat → Int → Int} (hp : Phi phi) : ∀ (f i : Nat), i < l.length → l.length - i ≤ f → 0 ≤ T l phi i ∧ 0 ≤ raw l phi i
  | 0, i, hi, hf => absurd hf (by omega)
  | f + 1, i, hi, hf => by
    have ho := own_ok h hi
    have hs : 0 ≤ sumP (kid l i) (T l phi) (l.length - (i + 1)) (i + 1) := sumP_nonneg _ _ fun j a b => (T_ok h hp f j (by omega) (by omega)).1
    have hr : 0 ≤ raw l phi i := by unfold raw; split <;> omega
    refine ⟨?_, hr⟩
    rw [T_eq h.len hi]
    split
    · exact (hp i _ hr).1
    · exact Int.le_refl _
theorem T_nonneg {l : List It} (h : WT l) {phi : Nat → Int → Int} (hp : Phi phi) {i : Nat} (hi : i < l.length) : 0 ≤ T l phi i := (T_ok h hp (l.length - i) i hi (Nat.le_refl _)).1
theorem raw_nonneg {l : List It} (h : WT l) {phi : Nat → Int → Int} (hp : Phi phi) {i : Nat} (hi : i < l.length) : 0 ≤ raw l phi i := (T_ok h hp (l.length - i) i hi (Nat.le_refl _)).2
theorem T_le_raw {l : List It} (h : WT l) {phi : Nat → Int → Int} (hp : Phi phi) {i : Nat} (hi : i < l.length) : T l phi i ≤ raw l phi i := by
  have hr := raw_nonneg h hp hi
  rw [T_eq h.len hi]
  split
  · exact (hp i _ hr).2
  · exact hr
/-- The items from a on that hang on none of these take at most 500 each of these. -/
theorem roots_le {l : List It} (h : WT l) {phi : Nat → Int → Int} (hp : Phi phi) : ∀ (n a : Nat), a + n = l.length → sumP (fun k => up (g l k) < (a : Int)) (T l phi) n a ≤ 500 * n
  | 0, a, _ => by unfold sumP; omega
  | n + 1, a, e => by
    have ha : a < l.length := by omega
    have hu := h.up1 a ha
    have ih := roots_le h hp n (a + 1) (by omega)
    have ho := own_ok h ha
    have ht := T_le_raw h hp ha
    have hs : sumP (fun k => up (g l k) < ((a + 1 : Nat) : Int)) (T l phi) n (a + 1) = sumP (fun k => up (g l k) < (a : Int)) (T l phi) n (a + 1) + sumP (kid l a) (T l phi) n (a + 1) := by
      rw [← sumP_split (p := fun k => up (g l k) < (a : Int)) (q := kid l a) (fun j h1 h2 => by have h1 : up (g l j) < (a : Int) := h1; have h2 : up (g l j) = (a : Int) := h2; omega)]
      exact sumP_congr _ _ fun j _ _ => ⟨by constructor <;> intro hh <;> (first | (rcases hh with hh | hh <;> (have hh : _ := hh; first | omega | (have hh : up (g l j) = (a : Int) := hh; push_cast; omega))) | (push_cast at hh; by_cases hz : up (g l j) = (a : Int); exact .inr hz; exact .inl (by omega))), fun _ => rfl⟩
    have hk : 0 ≤ sumP (kid l a) (T l phi) n (a + 1) := sumP_nonneg _ _ fun j h1 h2 => T_nonneg h hp (by omega)
    have hr : raw l phi a ≤ 500 + sumP (kid l a) (T l phi) n (a + 1) := by
      unfold raw
      rw [show l.length - (a + 1) = n by omega]
      split <;> omega
    unfold sumP
    rw [if_pos hu.2]
    rw [hs] at ih
    have e5 : ((n + 1 : Nat) : Int) = n + 1 := by simp
    rw [e5]
    omega
theorem kids_le {l : List It} (h : WT l) {phi : Nat → Int → Int} (hp : Phi phi) {i a n : Nat} (hia : i < a) (e : a + n = l.length) : sumP (kid l i) (T l phi) n a ≤ 100000 := by
  have h1 := roots_le h hp n a e
  have hl := h.len
  have h2 : sumP (kid l i) (T l phi) n a ≤ sumP (fun k => up (g l k) < (a : Int)) (T l phi) n a := sumP_mono _ _ fun j _ _ => ⟨T_nonneg h hp (by omega), fun hk => by have hk : up (g l j) = (i : Int) := hk; show up (g l j) < (a : Int); omega⟩
  omega
theorem raw_le {l : List It} (h : WT l) {phi : Nat → Int → Int} (hp : Phi phi) {i : Nat} (hi : i < l.length) : raw l phi i ≤ 100500 := by
  have ho := own_ok h hi
  have := kids_le h hp (i := i) (a := i + 1) (n := l.length - (i + 1)) (by omega) (by omega)
  unfold raw
  split <;> omega
theorem T_le {l : List It} (h : WT l) {phi : Nat → Int → Int} (hp : Phi phi) {i : Nat} (hi : i < l.length) : T l phi i ≤ 100500 := Int.le_trans (T_le_raw h hp hi) (raw_le h hp hi)
end Go.Proofs.Ytnelgpgmggcdcaa
