/- Powers in plain words: which trees are accepted. Plain theorems, no condition. -/
import Derived.Test.YtnelgpgmggcdcaaPP4
set_option linter.unusedVariables false
set_option linter.unusedSimpArgs false
namespace Go.Proofs.Ytnelgpgmggcdcaa
open Go.RowKit

/-- How many hubs hang one on the other, at an item. -/
def tiers (l : List It) (i : Nat) : Nat := (if hub (g l i) then 1 else 0) + (anc l i).length
structure Ok (l : List It) (i : Nat) : Prop where
  up1 : -1 ≤ up (g l i) ∧ up (g l i) < i
  port1 : 1 ≤ port (g l i) ∧ port (g l i) ≤ 7
  need1 : 0 ≤ need (g l i) ∧ need (g l i) ≤ 500
  selfhub : self (g l i) = true → hub (g l i) = true
  free : ∀ k, k < i → ¬ (up (g l k) = up (g l i) ∧ port (g l k) = port (g l i))
  above : 0 ≤ up (g l i) → hub (g l (up (g l i)).toNat) = true ∧ (self (g l (up (g l i)).toNat) = true ∨ port (g l i) ≤ 4) ∧ (sleep (g l i) = true ∨ sleep (g l (up (g l i)).toNat) = false) ∧ tiers l i ≤ 5
structure Good (l : List It) : Prop where
  len : l.length ≤ 127
  ok : ∀ i, i < l.length → Ok l i
theorem Good.wt {l : List It} (h : Good l) : WT l := ⟨Nat.le_trans h.len (by decide), fun i hi => (h.ok i hi).up1, fun i hi => (h.ok i hi).need1⟩
theorem g_take {l : List It} {i j : Nat} (h : j < i) : g (l.take i) j = g l j := by
  unfold g
  rw [List.getD_eq_getElem?_getD, List.getD_eq_getElem?_getD, List.getElem?_take, if_pos h]
theorem chain_take {l : List It} {i : Nat} (hU : ∀ j, j < i → -1 ≤ up (g l j) ∧ up (g l j) < j) : ∀ (f : Nat) (c : Int), c < i → chain (l.take i) f c = chain l f c
  | 0, _, _ => rfl
  | f + 1, c, h => by
    unfold chain
    by_cases h0 : 0 ≤ c
    · have := hU c.toNat (by omega)
      rw [if_pos h0, if_pos h0, g_take (by omega), chain_take hU f _ (by omega)]
    · rw [if_neg h0, if_neg h0]
theorem anc_take {l : List It} {i j : Nat} (hU : ∀ j, j < i → -1 ≤ up (g l j) ∧ up (g l j) < j) (hj : j < i) : anc (l.take i) j = anc l j := by
  unfold anc
  rw [g_take hj, chain_take hU]
  have := hU j hj
  omega
theorem p37_l1_take {l : List It} {cp : Option Nat} {i : Nat} (hil : i ≤ l.length) (hU : ∀ j, j < i → -1 ≤ up (g l j) ∧ up (g l j) < j) (n : Nat) (Be : Type) (f : Be → Int → Option (Bool × Be)) : ∀ (m : Nat) (c : Int) (s : Be), -1 ≤ c → c < i → p37_l1 n Be ⟨l, cp⟩ f m c s = p37_l1 n Be ⟨l.take i, cp⟩ f m c s
  | 0, _, _, _, _ => rfl
  | m + 1, c, s, h1, h2 => by
    unfold p37_l1
    by_cases h0 : c = -1
    · subst h0; rfl
    · obtain ⟨k, rfl⟩ : ∃ k : Nat, c = k := ⟨c.toNat, by omega⟩
      have hu := hU k (by omega)
      rw [idx_g (show k < l.length by omega), idx_g (show k < (l.take i).length by rw [List.length_take]; omega), g_take (by omega)]
      simp only [Option.bind_some]
      cases f s (k : Int) with
      | none => rfl
      | some t =>
        rw [Option.bind_some, Option.bind_some, show (g l k).1 = up (g l k) from rfl]
        rw [p37_l1_take hil hU n Be f m (up (g l k)) t.2 (by omega) (by omega)]
theorem tiers_run {l : List It} {cp : Option Nat} {i : Nat} (hl : l.length ≤ 200) (hi : i < l.length) (hU : ∀ j, j ≤ i → -1 ≤ up (g l j) ∧ up (g l j) < j) (hN : ∀ j, j ≤ i → 0 ≤ need (g l j) ∧ need (g l j) ≤ 500) {n : Nat} (hn : 300 ≤ n) (a : Int) (ha : 0 ≤ a ∧ a ≤ 1) :
    p37 n ⟨l, cp⟩ i (Nat × Int) (rnd (p30_r1 n)) (0, a) = some (0, a + (anc l i).length) := by
  have hWT : WT (l.take (i + 1)) := ⟨by rw [List.length_take]; omega, fun j hj => by
      rw [List.length_take] at hj; rw [g_take (by omega)]; exact hU j (by omega), fun j hj => by
      rw [List.length_take] at hj; rw [g_take (by omega)]; exact hN j (by omega)⟩
  have hit : i < (l.take (i + 1)).length := by rw [List.length_take]; omega
  have e1 : p37 n ⟨l, cp⟩ i (Nat × Int) (rnd (p30_r1 n)) (0, a) = p37 n ⟨l.take (i + 1), cp⟩ i (Nat × Int) (rnd (p30_r1 n)) (0, a) := by
    unfold p37
    have := hU i (Nat.le_refl _)
    rw [idx_g hi, idx_g hit, g_take (by omega), Option.bind_some, Option.bind_some, show (g l i).1 = up (g l i) from rfl]
    rw [p37_l1_take (i := i + 1) (by omega) (fun j hj => hU j (by omega)) n _ _ n (up (g l i)) _ (by omega) (by omega)]
  rw [e1, p37_eq hWT hn hit, anc_take (fun j hj => hU j (by omega)) (by omega)]
  have key : ∀ (ks : List Nat) (a : Int), 0 ≤ a → a + ks.length ≤ 1000 → ancF (rnd (p30_r1 n)) ks (0, a) = some (true, (0, a + ks.length)) := by
    intro ks
    induction ks with
    | nil => intro a _ _; simp [ancF]
    | cons k ks ih =>
      intro a h0 h1
      rw [List.length_cons] at h1
      unfold ancF
      have e : rnd (p30_r1 n) (0, a) (k : Int) = some (true, (0, a + 1)) := by
        show ((p30_r1 n a (k : Int)).map _) = _
        unfold p30_r1
        rw [ckS (by omega) (by omega), Option.bind_some]; rfl
      rw [e, Option.bind_some, if_pos rfl, ih (a + 1) (by omega) (by push_cast at h1; omega)]
      rw [List.length_cons]
      congr 3
      push_cast; omega
  have hlen : (anc l i).length ≤ 200 := by
    unfold anc
    have : ∀ (f : Nat) (c : Int), (chain l f c).length ≤ f := by
      intro f
      induction f with
      | zero => intro c; simp [chain]
      | succ f ih =>
        intro c
        unfold chain
        split
        · have := ih (up (g l c.toNat)); simp; omega
        · simp
    exact this 200 _
  rw [key _ a ha.1 (by omega)]
  rfl
theorem p39_36_l1_eq (n : Nat) (x : Sl It) (y : It) (hl : x.xs.length ≤ 200) : ∀ (m k : Nat), k ≤ x.xs.length → x.xs.length - k < m →
    (∃ r, p39_36_l1 n x y m k = some r ∧ ((r = .inl () ∧ ∀ j, k ≤ j → j < x.xs.length → ¬ (up (g x.xs j) = up y ∧ port (g x.xs j) = port y)) ∨ ∃ j : Nat, r = .inr (j : Int) ∧ k ≤ j ∧ j < x.xs.length ∧ up (g x.xs j) = up y ∧ port (g x.xs j) = port y))
  | 0, k, _, h => absurd h (by omega)
  | m + 1, k, hk, hm => by
    unfold p39_36_l1
    by_cases hlt : k < x.xs.length
    · rw [if_pos (decide_eq_true (show (k : Int) < lenI x by show (k : Int) < (x.xs.length : Int); omega)), idx_g hlt, Option.bind_some]
      have e : p36 n (g x.xs k) y = some (up (g x.xs k) == up y && port (g x.xs k) == port y) := by
        unfold p36
        rw [andS, Option.bind_some]; rfl
      rw [e, Option.bind_some]
      by_cases hc : up (g x.xs k) = up y ∧ port (g x.xs k) = port y
      · rw [hc.1, hc.2, if_pos (by simp)]
        exact ⟨_, rfl, .inr ⟨k, rfl, Nat.le_refl _, hlt, hc.1, hc.2⟩⟩
      · rw [if_neg (by simpa using hc), ckS (by omega) (by omega), Option.bind_some, show ((k : Int) + 1) = ((k + 1 : Nat) : Int) by simp]
        obtain ⟨r, h1, h2⟩ := p39_36_l1_eq n x y hl m (k + 1) (by omega) (by omega)
        refine ⟨r, h1, ?_⟩
        rcases h2 with ⟨h2, h3⟩ | ⟨j, h2, h3, h4, h5⟩
        · refine .inl ⟨h2, fun j a b => ?_⟩
          by_cases hj : j = k
          · subst hj; exact hc
          · exact h3 j (by omega) b
        · exact .inr ⟨j, h2, by omega, h4, h5⟩
    · rw [if_neg (by rw [decide_eq_true_eq]; show ¬ ((k : Int) < (x.xs.length : Int)); omega)]
      exact ⟨_, rfl, .inl ⟨rfl, fun j a b => absurd b (by omega)⟩⟩
theorem slI_take {l : List It} {cp : Option Nat} {i : Nat} (hi : i ≤ l.length) : ∃ c, slI (⟨l, cp⟩ : Sl It) 0 i = some ⟨l.take i, c⟩ := by
  unfold slI
  rw [if_pos (show (0 : Int) ≤ 0 ∧ (0 : Int) ≤ (i : Int) ∧ (i : Int) ≤ ((⟨l, cp⟩ : Sl It).xs.length : Int) from ⟨by omega, by omega, by show (i : Int) ≤ (l.length : Int); omega⟩)]
  exact ⟨_, rfl⟩
/-- Simple conditions of an item. -/
def bad (x : It) (i : Int) : Bool := decide (up x < -1) || decide (up x ≥ i) || decide (port x < 1) || decide (port x > 7) || decide (need x < 0) || decide (need x > 500) || (self x && !hub x)
theorem bad_iff (x : It) (i : Int) : bad x i = false ↔ (-1 ≤ up x ∧ up x < i) ∧ (1 ≤ port x ∧ port x ≤ 7) ∧ (0 ≤ need x ∧ need x ≤ 500) ∧ (self x = true → hub x = true) := by
  unfold bad
  simp only [Bool.or_eq_false_iff, decide_eq_false_iff_not, Bool.and_eq_false_iff, Bool.not_eq_false']
  constructor
  · rintro ⟨⟨⟨⟨⟨⟨h1, h2⟩, h3⟩, h4⟩, h5⟩, h6⟩, h7⟩
    exact ⟨⟨by omega, by omega⟩, ⟨by omega, by omega⟩, ⟨by omega, by omega⟩, fun h => h7.resolve_left (by rw [h]; decide)⟩
  · rintro ⟨⟨h1, h2⟩, ⟨h3, h4⟩, ⟨h5, h6⟩, h7⟩
    refine ⟨⟨⟨⟨⟨⟨by omega, by omega⟩, by omega⟩, by omega⟩, by omega⟩, by omega⟩, ?_⟩
    cases hs : self x
    · exact .inl rfl
    · exact .inr (h7 hs)
theorem not_bad {l : List It} {i : Nat} (h : Ok l i) : bad (g l i) i = false := (bad_iff _ _).2 ⟨h.up1, h.port1, h.need1, h.selfhub⟩
/-- What of an item the hub above it tells. -/
def top (x h : It) : Bool := hub h && (self h || decide (port x ≤ 4)) && (sleep x || !sleep h)
theorem top_iff (x h : It) : top x h = true ↔ hub h = true ∧ (self h = true ∨ port x ≤ 4) ∧ (sleep x = true ∨ sleep h = false) := by
  unfold top
  simp only [Bool.and_eq_true, Bool.or_eq_true, decide_eq_true_eq, Bool.not_eq_true', and_assoc]
theorem p30_eq {l : List It} {cp : Option Nat} (hl : l.length ≤ 200) {i : Nat} (hi : i < l.length) (hb : ∀ j, j < i → Ok l j) {n : Nat} (hn : 300 ≤ n) : (Ok l i → p30 n ⟨l, cp⟩ i = some true) ∧ (¬ Ok l i → p30 n ⟨l, cp⟩ i = some false) := by
  have key : ∃ b, p30 n ⟨l, cp⟩ i = some b ∧ (b = true ↔ Ok l i) := by
    unfold p30
    simp only [idx_g hi, Option.bind_some, orS, andS]
    have eb : (((((decide ((g l i).1 < -1) || decide ((g l i).1 ≥ (i : Int))) || decide ((g l i).2.1 < 1)) || decide ((g l i).2.1 > 7)) || decide ((g l i).2.2.2.2.2.2 < 0)) || decide ((g l i).2.2.2.2.2.2 > 500) || ((g l i).2.2.2.1 && !(g l i).2.2.1)) = bad (g l i) i := rfl
    rw [eb]
    cases hB : bad (g l i) i with
    | true =>
      rw [if_pos rfl]
      exact ⟨false, rfl, ⟨fun h => Bool.noConfusion h, fun h => absurd hB (by rw [not_bad h]; decide)⟩⟩
    | false =>
      obtain ⟨hu, hp, hne, hsh⟩ := (bad_iff _ _).1 hB
      rw [if_neg (by decide)]
      obtain ⟨c, hs⟩ := slI_take (cp := cp) (show i ≤ l.length by omega)
      rw [hs, Option.bind_some]
      unfold p35_36 p39_36
      obtain ⟨r, h1, h2⟩ := p39_36_l1_eq n ⟨l.take i, c⟩ (g l i) (by show (l.take i).length ≤ 200; rw [List.length_take]; omega) n 0 (Nat.zero_le _) (by show (l.take i).length - 0 < n; rw [List.length_take]; omega)
      have h1 : p39_36_l1 n ⟨l.take i, c⟩ (g l i) n 0 = some r := h1
      have hlt : (⟨l.take i, c⟩ : Sl It).xs.length = i := by show (l.take i).length = i; rw [List.length_take]; omega
      rw [h1, Option.bind_some]
      rcases h2 with ⟨rfl, h3⟩ | ⟨j, rfl, h3, h4, h5⟩
      · rw [lrKl, Option.bind_some, Option.bind_some, if_neg (by decide)]
        have hfree : ∀ k, k < i → ¬ (up (g l k) = up (g l i) ∧ port (g l k) = port (g l i)) := fun k hk => by
          have := h3 k (Nat.zero_le _) (by omega)
          rw [show g (⟨l.take i, c⟩ : Sl It).xs k = g l k from g_take hk] at this
          exact this
        have ej : (if (g l i).2.2.1 = true then some (1 : Int) else some 0) = some (if hub (g l i) then 1 else 0) := by
          show (if hub (g l i) = true then some (1 : Int) else some 0) = _
          cases hub (g l i) <;> rfl
        rw [ej, Option.bind_some]
        unfold p32
        rw [Option.bind_some]
        dsimp only
        have hUN : ∀ j, j ≤ i → (-1 ≤ up (g l j) ∧ up (g l j) < j) ∧ 0 ≤ need (g l j) ∧ need (g l j) ≤ 500 := fun j hj => by
          by_cases h : j = i
          · subst h; exact ⟨hu, hne⟩
          · exact ⟨(hb j (by omega)).up1, (hb j (by omega)).need1⟩
        rw [tiers_run hl hi (fun j hj => (hUN j hj).1) (fun j hj => (hUN j hj).2) hn _ (by split <;> omega), Option.bind_some]
        by_cases h0 : up (g l i) = -1
        · rw [if_pos (by show (up (g l i) == -1) = true; rw [h0]; rfl)]
          exact ⟨true, rfl, fun _ => ⟨hu, hp, hne, hsh, hfree, fun h => by omega⟩, fun _ => rfl⟩
        · obtain ⟨u, hu'⟩ : ∃ u : Nat, up (g l i) = (u : Int) := ⟨(up (g l i)).toNat, by omega⟩
          rw [if_neg (by show ¬ (up (g l i) == -1) = true; simpa using h0), show (g l i).1 = (u : Int) from hu', idx_g (show u < l.length by omega)]
          simp only [Option.bind_some, orS, andS]
          have et : ((g l u).2.2.1 && ((g l u).2.2.2.1 || decide ((g l i).2.1 ≤ 4)) && ((g l i).2.2.2.2.2.1 || !(g l u).2.2.2.2.2.1)) = top (g l i) (g l u) := rfl
          rw [et]
          refine ⟨_, rfl, ?_⟩
          rw [Bool.and_eq_true, top_iff, decide_eq_true_eq]
          have ht : ((if hub (g l i) = true then 1 else 0) + ((anc l i).length : Int) ≤ 5) ↔ tiers l i ≤ 5 := by
            unfold tiers
            split <;> omega
          constructor
          · rintro ⟨⟨h1, h2, h3⟩, h4⟩
            exact ⟨hu, hp, hne, hsh, hfree, fun _ => by rw [hu', Int.toNat_natCast]; exact ⟨h1, h2, h3, ht.1 h4⟩⟩
          · intro h
            have := h.above (by omega)
            rw [hu', Int.toNat_natCast] at this
            exact ⟨⟨this.1, this.2.1, this.2.2.1⟩, ht.2 this.2.2.2⟩
      · rw [lrKr, Option.bind_some, Option.bind_some, if_pos (decide_eq_true (show (j : Int) ≥ 0 by omega))]
        refine ⟨false, rfl, ⟨fun h => Bool.noConfusion h, fun h => ?_⟩⟩
        have hji : j < i := by rw [hlt] at h4; exact h4
        rw [show g (⟨l.take i, c⟩ : Sl It).xs j = g l j from g_take hji] at h5
        exact absurd h5 (h.free j hji)
  obtain ⟨b, h1, h2⟩ := key
  exact ⟨fun h => by rw [h1, h2.2 h], fun h => by
    rw [h1]; cases b
    · rfl
    · exact absurd (h2.1 rfl) h⟩
theorem p17_l1_ok {l : List It} {cp : Option Nat} (hl : l.length ≤ 200) {n : Nat} (hn : 300 ≤ n) (h : ∀ i, i < l.length → Ok l i) : ∀ (m k : Nat), k ≤ l.length → l.length - k < m → p17_l1 n ⟨l, cp⟩ m k = some (.inl ())
  | 0, k, _, h => absurd h (by omega)
  | m + 1, k, hk, hm => by
    unfold p17_l1
    rw [lenI_mk]
    by_cases hlt : k < l.length
    · rw [if_pos (decide_eq_true (show (k : Int) < (l.length : Int) by omega)), (p30_eq hl hlt (fun j hj => h j (by omega)) hn).1 (h k hlt), Option.bind_some, if_neg (by decide), ckS (by omega) (by omega), Option.bind_some, show ((k : Int) + 1) = ((k + 1 : Nat) : Int) by simp]
      exact p17_l1_ok hl hn h m (k + 1) (by omega) (by omega)
    · rw [if_neg (by rw [decide_eq_true_eq]; omega)]
theorem p17_good {l : List It} {cp : Option Nat} (h : Good l) {n : Nat} (hn : 300 ≤ n) : p17 n ⟨l, cp⟩ = some 0 := by
  have hl := h.len
  unfold p17
  rw [lenI_mk, if_neg (by rw [decide_eq_true_eq]; omega), show (0 : Int) = ((0 : Nat) : Int) from rfl, p17_l1_ok (by omega) hn h.ok n 0 (Nat.zero_le _) (by omega)]
  rfl
end Go.Proofs.Ytnelgpgmggcdcaa
