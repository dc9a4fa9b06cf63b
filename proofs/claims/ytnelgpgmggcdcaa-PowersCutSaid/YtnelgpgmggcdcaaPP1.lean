/- Powers in plain words: trees, what hangs above an item, and whether it has current. Plain theorems, no condition. -/
import Derived.Test.YtnelgpgmggcdcaaP3
import Derived.Test.YtnelgpgmggcdcaaXP2
set_option linter.unusedVariables false
set_option linter.unusedSimpArgs false
namespace Go.Proofs.Ytnelgpgmggcdcaa
open Go.RowKit

abbrev It := Int × Int × Bool × Bool × Bool × Bool × Int
def dIt : It := (-1, 0, false, false, false, false, 0)
def g (l : List It) (i : Nat) : It := l.getD i dIt
def up (x : It) : Int := x.1
def port (x : It) : Int := x.2.1
def hub (x : It) : Bool := x.2.2.1
def self (x : It) : Bool := x.2.2.2.1
def ready (x : It) : Bool := x.2.2.2.2.1
def sleep (x : It) : Bool := x.2.2.2.2.2.1
def need (x : It) : Int := x.2.2.2.2.2.2
/-- A list in which each item hangs on one before it. -/
structure WT (l : List It) : Prop where
  len : l.length ≤ 200
  up1 : ∀ i, i < l.length → -1 ≤ up (g l i) ∧ up (g l i) < i
  need1 : ∀ i, i < l.length → 0 ≤ need (g l i) ∧ need (g l i) ≤ 500
theorem g_get {l : List It} {i : Nat} (h : i < l.length) : l[i]? = some (g l i) := by
  unfold g; rw [List.getD_eq_getElem?_getD, List.getElem?_eq_getElem h]; rfl
theorem idx_g {l : List It} {i : Nat} (h : i < l.length) : idx l (i : Int) = some (g l i) := by rw [idx_nat, g_get h]
def chain (l : List It) : Nat → Int → List Nat
  | 0, _ => []
  | f + 1, c => if 0 ≤ c then c.toNat :: chain l f (up (g l c.toNat)) else []
theorem chain_eq {l : List It} (h : WT l) : ∀ (f f' : Nat) (c : Int), c < f → c < f' → c < l.length → chain l f c = chain l f' c
  | 0, 0, c, _, _, _ => rfl
  | 0, f' + 1, c, h1, _, _ => by unfold chain; rw [if_neg (by omega)]
  | f + 1, 0, c, _, h1, _ => by unfold chain; rw [if_neg (by omega)]
  | f + 1, f' + 1, c, h1, h2, h3 => by
    unfold chain
    by_cases h0 : 0 ≤ c
    · have := h.up1 c.toNat (by omega)
      rw [if_pos h0, if_pos h0, chain_eq h f f' _ (by omega) (by omega) (by omega)]
    · rw [if_neg h0, if_neg h0]
/-- The items on which item i hangs, the nearest one first. -/
def anc (l : List It) (i : Nat) : List Nat := chain l 200 (up (g l i))
theorem anc_eq {l : List It} (h : WT l) {i : Nat} (hi : i < l.length) : anc l i = if 0 ≤ up (g l i) then (up (g l i)).toNat :: anc l (up (g l i)).toNat else [] := by
  have h1 := h.up1 i hi
  have hl := h.len
  unfold anc
  by_cases h0 : 0 ≤ up (g l i)
  · have h2 := h.up1 (up (g l i)).toNat (by omega)
    rw [if_pos h0]
    conv => lhs; unfold chain
    rw [if_pos h0, chain_eq h 199 200 _ (by omega) (by omega) (by omega)]
  · rw [if_neg h0]; unfold chain; rw [if_neg h0]
theorem anc_lt {l : List It} (h : WT l) : ∀ (i : Nat), i < l.length → ∀ k ∈ anc l i, k < i := by
  intro i
  induction i using Nat.strongRecOn with
  | ind i ih =>
    intro hi k hk
    rw [anc_eq h hi] at hk
    have h1 := h.up1 i hi
    split at hk
    · rename_i h0
      rcases List.mem_cons.1 hk with e | hk
      · subst e; omega
      · have := ih (up (g l i)).toNat (by omega) (by omega) k hk; omega
    · cases hk
def ancF {Be : Type} (f : Be → Int → Option (Bool × Be)) : List Nat → Be → Option (Bool × Be)
  | [], s => some (true, s)
  | k :: ks, s => (f s k).bind fun t => if t.1 then ancF f ks t.2 else some (false, t.2)
theorem p37_l1_eq {l : List It} {cp : Option Nat} (h : WT l) (n : Nat) (Be : Type) (f : Be → Int → Option (Bool × Be)) : ∀ (m : Nat) (c : Int) (s : Be), -1 ≤ c → c < l.length → c + 1 < m →
    (p37_l1 n Be ⟨l, cp⟩ f m c s).map (fun y => match y with | .inl q => (true, q.2) | .inr q => (false, q)) = ancF f (chain l 200 c) s
  | 0, c, s, h1, _, h3 => absurd h3 (by omega)
  | m + 1, c, s, h1, h2, h3 => by
    have hl := h.len
    unfold p37_l1
    by_cases h0 : c = -1
    · subst h0; rfl
    · have hc : 0 ≤ c := by omega
      have hu := h.up1 c.toNat (by omega)
      have ec : chain l 200 c = c.toNat :: chain l 200 (up (g l c.toNat)) := by
        conv => lhs; unfold chain
        rw [if_pos hc, chain_eq h 199 200 _ (by omega) (by omega) (by omega)]
      rw [if_pos (by simpa using h0), ec]
      show _ = (f s ((c.toNat : Nat) : Int)).bind _
      rw [show ((c.toNat : Nat) : Int) = c by omega]
      cases hf : f s c with
      | none => rfl
      | some t =>
        rw [Option.bind_some, Option.bind_some]
        cases ht : t.1 with
        | false => simp [ht]
        | true =>
          rw [if_neg (by simp [ht]), if_pos rfl, show idx l c = some (g l c.toNat) by rw [← idx_g (l := l) (i := c.toNat) (by omega), show ((c.toNat : Nat) : Int) = c by omega], Option.bind_some]
          exact p37_l1_eq h n Be f m (up (g l c.toNat)) t.2 (by omega) (by omega) (by omega)
theorem p37_eq {l : List It} {cp : Option Nat} (h : WT l) {n : Nat} (hn : 300 ≤ n) {i : Nat} (hi : i < l.length) (Be : Type) (f : Be → Int → Option (Bool × Be)) (s : Be) : p37 n ⟨l, cp⟩ i Be f s = (ancF f (anc l i) s).map (·.2) := by
  have hl := h.len
  have hu := h.up1 i hi
  unfold p37
  rw [idx_g hi, Option.bind_some]
  have h1 := p37_l1_eq (cp := cp) h n Be f n (up (g l i)) s (by omega) (by omega) (by omega)
  show ((p37_l1 n Be ⟨l, cp⟩ f n (up (g l i)) s).bind _) = _
  unfold anc
  rw [← h1]
  cases hp : p37_l1 n Be ⟨l, cp⟩ f n (up (g l i)) s with
  | none => rfl
  | some y => cases y <;> rfl
def lit (l : List It) (i : Nat) : Bool := (anc l i).all fun k => ready (g l k)
theorem p31_eq {l : List It} {cp : Option Nat} (h : WT l) {n : Nat} (hn : 300 ≤ n) {i : Nat} (hi : i < l.length) : p31 n ⟨l, cp⟩ i = some (lit l i) := by
  unfold p31 p32
  rw [Option.bind_some]
  dsimp only
  rw [p37_eq h hn hi]
  have key : ∀ ks : List Nat, (∀ k ∈ ks, k < l.length) → (ancF (rnd (p31_r1 n ⟨l, cp⟩)) ks (0, ())).map (·.2) = some (if ks.all fun k => ready (g l k) then (0, ()) else (1, ())) := by
    intro ks
    induction ks with
    | nil => intro _; rfl
    | cons k ks ih =>
      intro hk
      have h0 := hk k (by simp)
      unfold ancF
      have e : rnd (p31_r1 n ⟨l, cp⟩) (0, ()) (k : Int) = some (if ready (g l k) then (true, (0, ())) else (false, (1, ()))) := by
        show ((p31_r1 n ⟨l, cp⟩ () (k : Int)).map _) = _
        unfold p31_r1
        rw [idx_g h0, Option.bind_some]
        cases hr : ready (g l k)
        · rw [show (g l k).2.2.2.2.1 = false from hr]; rfl
        · rw [show (g l k).2.2.2.2.1 = true from hr]; rfl
      rw [e, Option.bind_some]
      cases hr : ready (g l k)
      · simp [hr]
      · rw [if_pos rfl, if_pos rfl, ih (fun q hq => hk q (by simp [hq]))]; simp [hr]
  rw [key _ (fun k hk => by have := anc_lt h i hi k hk; omega), Option.bind_some]
  unfold lit
  cases (anc l i).all fun k => ready (g l k) <;> rfl
def own (x : It) : Int := if sleep x then 2 else if ready x then need x else 100
theorem p12_eq (n : Nat) (x : It) : p12 n x = some (own x) := by
  unfold p12 own
  obtain ⟨a, b, c, d, e, f, k⟩ := x
  cases f <;> cases e <;> rfl
theorem p13_eq (n : Nat) (x : It) : p13 n x = some (own x) := by
  unfold p13 own
  obtain ⟨a, b, c, d, e, f, k⟩ := x
  cases f <;> cases e <;> rfl
/-- Item i hangs at a hub that has no current of its own. -/
def poor (l : List It) (i : Nat) : Bool := decide (0 ≤ up (g l i)) && !self (g l (up (g l i)).toNat)
def lim (l : List It) (i : Nat) : Int := if poor l i then 100 else 500
theorem p28_eq {l : List It} {cp : Option Nat} (h : WT l) (n : Nat) {i : Nat} (hi : i < l.length) : p28 n ⟨l, cp⟩ i = some (lim l i) := by
  have hu := h.up1 i hi
  unfold p28
  rw [idx_g hi, Option.bind_some]
  rw [show (g l i).1 = up (g l i) from rfl]
  unfold lim poor
  by_cases h0 : up (g l i) = -1
  · rw [h0]; rfl
  · rw [if_pos (by simpa using h0)]
    have : (0 : Int) ≤ up (g l i) := by omega
    rw [show idx l (up (g l i)) = some (g l (up (g l i)).toNat) by rw [← idx_g (l := l) (i := (up (g l i)).toNat) (by omega), show (((up (g l i)).toNat : Nat) : Int) = up (g l i) by omega], Option.bind_some, Option.bind_some, decide_eq_true this]
    show (if (!self (g l (up (g l i)).toNat)) = true then some 100 else some 500) = some (if (true && !self (g l (up (g l i)).toNat)) = true then 100 else 500)
    cases self (g l (up (g l i)).toNat) <;> rfl
theorem p11_eq {l : List It} {cp : Option Nat} (h : WT l) (n : Nat) {i : Nat} (hi : i < l.length) : p11 n ⟨l, cp⟩ i = some (lim l i) := by
  have hu := h.up1 i hi
  unfold p11
  rw [idx_g hi, Option.bind_some, Option.bind_some]
  rw [show (g l i).1 = up (g l i) from rfl]
  unfold lim poor
  by_cases h0 : up (g l i) < 0
  · rw [decide_eq_true h0, decide_eq_false (show ¬ (0 ≤ up (g l i)) by omega)]; rfl
  · rw [decide_eq_false h0, if_pos rfl]
    have : (0 : Int) ≤ up (g l i) := by omega
    rw [show idx l (up (g l i)) = some (g l (up (g l i)).toNat) by rw [← idx_g (l := l) (i := (up (g l i)).toNat) (by omega), show (((up (g l i)).toNat : Nat) : Int) = up (g l i) by omega], Option.bind_some, Option.bind_some, decide_eq_true this]
    show (if self (g l (up (g l i)).toNat) = true then some 500 else some 100) = some (if (true && !self (g l (up (g l i)).toNat)) = true then 100 else 500)
    cases self (g l (up (g l i)).toNat) <;> rfl
theorem p26_l1_eq {l : List It} {cp : Option Nat} (h : WT l) (n : Nat) : ∀ (m i : Nat), i < l.length → i < m → p26_l1 n ⟨l, cp⟩ m i = some (if lit l i then .inl () else .inr 0)
  | 0, i, _, h2 => absurd h2 (by omega)
  | m + 1, i, hi, h2 => by
    have hu := h.up1 i hi
    unfold p26_l1
    rw [idx_g hi, Option.bind_some]
    show (if decide (up (g l i) ≥ 0) = true then _ else _) = _
    unfold lit
    rw [anc_eq h hi]
    by_cases h0 : 0 ≤ up (g l i)
    · rw [if_pos (decide_eq_true h0), if_pos h0, Option.bind_some]
      rw [show idx l (g l i).1 = some (g l (up (g l i)).toNat) by rw [← idx_g (l := l) (i := (up (g l i)).toNat) (by omega), show (((up (g l i)).toNat : Nat) : Int) = up (g l i) by omega]; rfl, Option.bind_some]
      rw [List.all_cons]
      show (if (!ready (g l (up (g l i)).toNat)) = true then _ else _) = _
      cases hr : ready (g l (up (g l i)).toNat)
      · rfl
      · rw [if_neg (by decide)]
        have ih := p26_l1_eq (cp := cp) h n m (up (g l i)).toNat (by omega) (by omega)
        rw [show (((up (g l i)).toNat : Nat) : Int) = up (g l i) by omega] at ih
        rw [show (g l i).1 = up (g l i) from rfl, ih, Bool.true_and]; rfl
    · rw [if_neg (by rw [decide_eq_true_eq]; exact h0), if_neg h0]; rfl
theorem p26_eq {l : List It} {cp : Option Nat} (h : WT l) {n : Nat} (hn : 300 ≤ n) {i : Nat} (hi : i < l.length) : p26 n ⟨l, cp⟩ i = some (if lit l i then 1 else 0) := by
  have hl := h.len
  unfold p26
  rw [p26_l1_eq h n n i hi (by omega), Option.bind_some]
  cases lit l i <;> rfl
end Go.Proofs.Ytnelgpgmggcdcaa
