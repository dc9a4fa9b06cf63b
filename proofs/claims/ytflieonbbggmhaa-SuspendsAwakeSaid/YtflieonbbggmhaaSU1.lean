/- Suspends in plain words: paths. Plain theorems, no condition. -/
import Derived.Test.YtflieonbbggmhaaP3
import Derived.Test.YtflieonbbggmhaaXP2
set_option linter.unusedVariables false
set_option linter.unusedSimpArgs false
namespace Go.Proofs.Ytflieonbbggmhaa
open Go.RowKit

theorem idxD {α : Type} {xs : List α} {i : Nat} (d : α) (h : i < xs.length) : idx xs (i : Int) = some (xs.getD i d) := by
  rw [idx_nat, List.getElem?_eq_getElem h, List.getD_eq_getElem?_getD, List.getElem?_eq_getElem h]; rfl
theorem idxE {α : Type} {xs : List α} {i : Nat} (h : i < xs.length) : idx xs (i : Int) = some xs[i] := by
  rw [idx_nat, List.getElem?_eq_getElem h]
theorem lenI_mk {α : Type} (l : List α) (c : Option Nat) : lenI (⟨l, c⟩ : Sl α) = (l.length : Int) := rfl
theorem len_def {α : Type} (s : Sl α) : lenI s = (s.xs.length : Int) := rfl
theorem castS (k : Nat) : ((k : Int) + 1) = ((k + 1 : Nat) : Int) := by simp
theorem slI_cut {α : Type} {l : List α} {cp : Option Nat} {i : Nat} (hi : i ≤ l.length) : slI (⟨l, cp⟩ : Sl α) 0 i = some ⟨l.take i, cp.map (· - 0)⟩ := by
  unfold slI
  rw [if_pos (show (0 : Int) ≤ 0 ∧ (0 : Int) ≤ (i : Int) ∧ (i : Int) ≤ ((⟨l, cp⟩ : Sl α).xs.length : Int) from ⟨by omega, by omega, by show (i : Int) ≤ (l.length : Int); omega⟩)]
  simp
theorem slI_rest {α : Type} {l : List α} {cp : Option Nat} {i : Nat} (hi : i ≤ l.length) : slI (⟨l, cp⟩ : Sl α) i (l.length : Int) = some ⟨l.drop i, cp.map (· - i)⟩ := by
  unfold slI
  rw [if_pos (show (0 : Int) ≤ (i : Int) ∧ (i : Int) ≤ (l.length : Int) ∧ (l.length : Int) ≤ ((⟨l, cp⟩ : Sl α).xs.length : Int) from ⟨by omega, by omega, by show (l.length : Int) ≤ (l.length : Int); omega⟩)]
  simp
theorem sl3I_all {α : Type} (l : List α) (cp : Option Nat) : sl3I (⟨l, cp⟩ : Sl α) 0 (lenI (⟨l, cp⟩ : Sl α)) (lenI (⟨l, cp⟩ : Sl α)) = some ⟨l, some l.length⟩ := by
  unfold sl3I
  rw [lenI_mk, if_pos (show (0 : Int) ≤ 0 ∧ (0 : Int) ≤ (l.length : Int) ∧ (l.length : Int) ≤ (l.length : Int) ∧ (l.length : Int) ≤ (l.length : Int) by omega)]
  simp
theorem drop_cons {α : Type} {l : List α} {i : Nat} (h : i < l.length) : l.drop i = l[i] :: l.drop (i + 1) := List.drop_eq_getElem_cons h
theorem p36_l1_eq (n : Nat) (a b : Sl Int) (hl : a.xs.length = b.xs.length) (h2 : a.xs.length ≤ 200) : ∀ (m k : Nat), k ≤ a.xs.length → a.xs.length - k < m → p36_l1 n a b m k = some (if a.xs.drop k = b.xs.drop k then .inl () else .inr false) := by
  intro m
  induction m with
  | zero => intro k _ h; exact absurd h (by omega)
  | succ m ih =>
    intro k hk hm
    unfold p36_l1
    rw [len_def]
    by_cases hlt : k < a.xs.length
    · have hb : k < b.xs.length := by omega
      rw [if_pos (decide_eq_true (show (k : Int) < (a.xs.length : Int) by omega)), idxE hlt, Option.bind_some, idxE hb, Option.bind_some, drop_cons hlt, drop_cons hb]
      by_cases e : a.xs[k] = b.xs[k]
      · rw [if_neg (by simpa using e), ckS (by omega) (by omega), Option.bind_some, castS, ih (k + 1) (by omega) (by omega), e]
        congr 1
        by_cases h3 : a.xs.drop (k + 1) = b.xs.drop (k + 1)
        · rw [if_pos h3, if_pos (by rw [h3])]
        · rw [if_neg h3, if_neg (by intro q; exact h3 (List.cons.inj q).2)]
      · rw [if_pos (by simpa using e), if_neg (fun q => e (List.cons.inj q).1)]
    · rw [if_neg (by rw [decide_eq_true_eq]; omega), List.drop_eq_nil_of_le (by omega), List.drop_eq_nil_of_le (by omega), if_pos rfl]
theorem p36_eq {n : Nat} (hn : 300 ≤ n) (a b : Sl Int) (h2 : a.xs.length ≤ 200 ∨ b.xs.length ≤ 200) : p36 n a b = some (decide (a.xs = b.xs)) := by
  unfold p36
  rw [len_def, len_def]
  by_cases hl : a.xs.length = b.xs.length
  · rw [if_neg (by rw [hl]; simp), show (0 : Int) = ((0 : Nat) : Int) from rfl, p36_l1_eq n a b hl (by omega) n 0 (Nat.zero_le _) (by omega), List.drop_zero, List.drop_zero, Option.bind_some]
    by_cases e : a.xs = b.xs
    · rw [if_pos e, decide_eq_true e]; rfl
    · rw [if_neg e, decide_eq_false e]; rfl
  · rw [if_pos (by simp; omega), decide_eq_false (fun e => hl (by rw [e]))]
theorem p49_eq (n : Nat) (x y : Int) : p49 n x y = some (if x < y then -1 else if x > y then 1 else 0) := by
  unfold p49 p50
  rw [Option.bind_some, Option.bind_some, show (x != x) = false by simp, if_neg (by decide), show (y != y) = false by simp, if_neg (by decide)]
  by_cases h : x < y
  · rw [if_pos (decide_eq_true h), if_pos h]
  · rw [if_neg (by rw [decide_eq_true_eq]; exact h), if_neg h]
    by_cases h2 : x > y
    · rw [if_pos (decide_eq_true h2), if_pos h2]
    · rw [if_neg (by rw [decide_eq_true_eq]; exact h2), if_neg h2]
/-- How paths are ordered. -/
def cmpL (a b : List Int) : Int := if a < b then -1 else if a = b then 0 else 1
theorem cmpL_cons (x : Int) (a b : List Int) : cmpL (x :: a) (x :: b) = cmpL a b := by
  unfold cmpL
  have h1 : (x :: a < x :: b) ↔ a < b := by rw [List.cons_lt_cons_iff]; constructor
                                            · rintro (h | h); exact absurd h (Int.lt_irrefl _); exact h.2
                                            · intro h; exact .inr ⟨rfl, h⟩
  have h2 : (x :: a = x :: b) ↔ a = b := ⟨fun h => (List.cons.inj h).2, fun h => by rw [h]⟩
  simp only [h1, h2]
theorem p47_l1_eq (n : Nat) (a b : Sl Int) (h2 : a.xs.length ≤ 200 ∨ b.xs.length ≤ 200) : ∀ (m k : Nat), k ≤ a.xs.length → k ≤ b.xs.length → (a.xs.length - k < m ∨ b.xs.length - k < m) →
    ∃ r, p47_l1 n a b m k = some r ∧ ((r = .inl () ∧ cmpL (a.xs.drop k) (b.xs.drop k) = if a.xs.length < b.xs.length then -1 else 0) ∨ ∃ q : Int, r = .inr q ∧ q = cmpL (a.xs.drop k) (b.xs.drop k)) := by
  intro m
  induction m with
  | zero => intro k _ _ h; omega
  | succ m ih =>
    intro k hk hkb hm
    unfold p47_l1
    rw [len_def, len_def]
    by_cases hlt : k < a.xs.length
    · rw [if_pos (decide_eq_true (show (k : Int) < (a.xs.length : Int) by omega)), idxE hlt, Option.bind_some, drop_cons hlt]
      by_cases hb : k < b.xs.length
      · rw [if_neg (by rw [decide_eq_true_eq]; omega), idxE hb, Option.bind_some, p49_eq, Option.bind_some, drop_cons hb]
        by_cases e : a.xs[k] = b.xs[k]
        · rw [e, if_neg (Int.lt_irrefl _), if_neg (Int.lt_irrefl _), if_neg (by decide), ckS (by omega) (by omega), Option.bind_some, castS, cmpL_cons]
          exact ih (k + 1) (by omega) (by omega) (by omega)
        · by_cases h : a.xs[k] < b.xs[k]
          · rw [if_pos h, if_pos (by decide)]
            refine ⟨_, rfl, .inr ⟨-1, rfl, ?_⟩⟩
            unfold cmpL
            rw [if_pos (List.cons_lt_cons_iff.2 (.inl h))]
          · rw [if_neg h, if_pos (show a.xs[k] > b.xs[k] by omega), if_pos (by decide)]
            refine ⟨_, rfl, .inr ⟨1, rfl, ?_⟩⟩
            unfold cmpL
            rw [if_neg (fun q => by rcases List.cons_lt_cons_iff.1 q with q | q <;> omega), if_neg (fun q => e (List.cons.inj q).1)]
      · rw [if_pos (by rw [decide_eq_true_eq]; omega), List.drop_eq_nil_of_le (show b.xs.length ≤ k by omega)]
        refine ⟨_, rfl, .inr ⟨1, rfl, ?_⟩⟩
        unfold cmpL
        rw [if_neg (List.not_lt_nil _), if_neg (fun q => by cases q)]
    · rw [if_neg (by rw [decide_eq_true_eq]; omega), List.drop_eq_nil_of_le (show a.xs.length ≤ k by omega)]
      refine ⟨_, rfl, .inl ⟨rfl, ?_⟩⟩
      by_cases hb : k < b.xs.length
      · rw [drop_cons hb, if_pos (by omega)]
        unfold cmpL
        rw [if_pos (List.nil_lt_cons _ _)]
      · rw [List.drop_eq_nil_of_le (show b.xs.length ≤ k by omega), if_neg (by omega)]
        rfl
theorem p32_eq {n : Nat} (hn : 300 ≤ n) (a b : Sl Int) (h2 : a.xs.length ≤ 200 ∨ b.xs.length ≤ 200) : p32 n a b = some (cmpL a.xs b.xs) := by
  unfold p32 p47
  obtain ⟨r, h1, h⟩ := p47_l1_eq n a b h2 n 0 (Nat.zero_le _) (Nat.zero_le _) (by omega)
  rw [show p47_l1 n a b n 0 = some r from h1, Option.bind_some]
  rw [List.drop_zero, List.drop_zero] at h
  rcases h with ⟨rfl, h⟩ | ⟨q, rfl, h⟩
  · rw [lrKl, len_def, len_def, h]
    by_cases hl : a.xs.length < b.xs.length
    · rw [if_pos (by rw [decide_eq_true_eq]; omega), if_pos hl]; rfl
    · rw [if_neg (by rw [decide_eq_true_eq]; omega), if_neg hl]; rfl
  · rw [lrKr, h]; rfl
/-- A path goes through another one. -/
def thr (p hub : List Int) : Prop := hub.length < p.length ∧ p.take hub.length = hub
instance (p hub : List Int) : Decidable (thr p hub) := inferInstanceAs (Decidable (_ ∧ _))
theorem p37_eq {n : Nat} (hn : 300 ≤ n) (p h : Sl Int) (h2 : h.xs.length ≤ 200) : p37 n p h = some (decide (thr p.xs h.xs)) := by
  unfold p37
  rw [len_def, len_def]
  by_cases hl : h.xs.length < p.xs.length
  · obtain ⟨ps, pc⟩ := p
    have hl : h.xs.length < ps.length := hl
    rw [if_pos (by rw [decide_eq_true_eq]; show (ps.length : Int) > (h.xs.length : Int); omega), slI_cut (by omega), Option.bind_some, p36_eq hn _ _ (.inr h2)]
    show some (decide (ps.take h.xs.length = h.xs)) = _
    congr 1
    exact decide_eq_decide.2 ⟨fun e => ⟨hl, e⟩, fun e => e.2⟩
  · rw [if_neg (by rw [decide_eq_true_eq]; omega), decide_eq_false (fun e => hl e.1)]; rfl
theorem p14_l1_eq (n : Nat) (a b : Sl Int) (h2 : a.xs.length ≤ 200 ∨ b.xs.length ≤ 200) : ∀ (m k : Nat), k ≤ a.xs.length → k ≤ b.xs.length → (a.xs.length - k < m ∨ b.xs.length - k < m) →
    ∃ r, p14_l1 n a b m k = some r ∧ ((r = .inl () ∧ (a.xs.drop k < b.xs.drop k ↔ a.xs.length < b.xs.length)) ∨ ∃ q : Bool, r = .inr q ∧ (q = true ↔ a.xs.drop k < b.xs.drop k)) := by
  intro m
  induction m with
  | zero => intro k _ _ h; omega
  | succ m ih =>
    intro k hk hkb hm
    unfold p14_l1
    rw [len_def, len_def, andS, Option.bind_some]
    by_cases hc : k < a.xs.length ∧ k < b.xs.length
    · obtain ⟨hlt, hb⟩ := hc
      rw [if_pos (by rw [Bool.and_eq_true, decide_eq_true_eq, decide_eq_true_eq]; omega), idxE hlt, Option.bind_some, idxE hb, Option.bind_some, Option.bind_some, Option.bind_some, drop_cons hlt, drop_cons hb]
      by_cases e : a.xs[k] = b.xs[k]
      · rw [if_neg (by simpa using e), ckS (by omega) (by omega), Option.bind_some, castS]
        obtain ⟨r, h1, h3⟩ := ih (k + 1) (by omega) (by omega) (by omega)
        refine ⟨r, h1, ?_⟩
        have hc : (a.xs[k] :: a.xs.drop (k + 1) < b.xs[k] :: b.xs.drop (k + 1)) ↔ a.xs.drop (k + 1) < b.xs.drop (k + 1) := by
          rw [List.cons_lt_cons_iff, e]
          constructor
          · rintro (h | h); exact absurd h (Int.lt_irrefl _); exact h.2
          · intro h; exact .inr ⟨rfl, h⟩
        rw [hc]
        exact h3
      · rw [if_pos (by simpa using e)]
        refine ⟨_, rfl, .inr ⟨_, rfl, ?_⟩⟩
        rw [decide_eq_true_eq, List.cons_lt_cons_iff]
        exact ⟨fun h => .inl h, fun h => h.resolve_right fun q => e q.1⟩
    · rw [if_neg (by rw [Bool.and_eq_true, decide_eq_true_eq, decide_eq_true_eq]; omega)]
      refine ⟨_, rfl, .inl ⟨rfl, ?_⟩⟩
      by_cases hlt : k < a.xs.length
      · rw [List.drop_eq_nil_of_le (show b.xs.length ≤ k by omega)]
        exact ⟨fun h => absurd h (List.not_lt_nil _), fun h => by omega⟩
      · rw [List.drop_eq_nil_of_le (show a.xs.length ≤ k by omega)]
        by_cases hb : k < b.xs.length
        · rw [drop_cons hb]
          exact ⟨fun _ => by omega, fun _ => List.nil_lt_cons _ _⟩
        · rw [List.drop_eq_nil_of_le (show b.xs.length ≤ k by omega)]
          exact ⟨fun h => absurd h (List.not_lt_nil _), fun h => by omega⟩
theorem p14_eq {n : Nat} (hn : 300 ≤ n) (a b : Sl Int) (h2 : a.xs.length ≤ 200 ∨ b.xs.length ≤ 200) : p14 n a b = some (decide (a.xs < b.xs)) := by
  unfold p14
  obtain ⟨r, h1, h⟩ := p14_l1_eq n a b h2 n 0 (Nat.zero_le _) (Nat.zero_le _) (by omega)
  rw [show p14_l1 n a b n 0 = some r from h1, Option.bind_some]
  rw [List.drop_zero, List.drop_zero] at h
  rcases h with ⟨rfl, h⟩ | ⟨q, rfl, h⟩
  · rw [lrKl, len_def, len_def]
    congr 1
    exact decide_eq_decide.2 (by rw [h]; omega)
  · rw [lrKr]
    congr 1
    cases q
    · exact (decide_eq_false fun e => Bool.noConfusion (h.2 e)).symm
    · exact (decide_eq_true (h.1 rfl)).symm
theorem lt_tri {a b : List Int} (h : ¬ a < b) (h2 : ¬ b < a) : a = b := List.le_antisymm (List.not_lt.1 h2) (List.not_lt.1 h)
theorem p22_eq {n : Nat} (hn : 300 ≤ n) (a b : Sl Int) (h2 : a.xs.length ≤ 200 ∨ b.xs.length ≤ 200) : p22 n a b = some (decide (a.xs = b.xs)) := by
  unfold p22
  rw [p14_eq hn a b h2, Option.bind_some, p14_eq hn b a h2.symm, Option.bind_some]
  by_cases h : a.xs < b.xs
  · rw [decide_eq_true h, decide_eq_false (show ¬ a.xs = b.xs from fun e => by rw [e] at h; exact List.lt_irrefl _ h)]; rfl
  · rw [decide_eq_false h]
    by_cases h3 : b.xs < a.xs
    · rw [decide_eq_true h3, decide_eq_false (show ¬ a.xs = b.xs from fun e => by rw [e] at h3; exact List.lt_irrefl _ h3)]; rfl
    · rw [decide_eq_false h3, decide_eq_true (show a.xs = b.xs from lt_tri h h3)]; rfl
theorem p11_eq {n : Nat} (hn : 300 ≤ n) (h p : Sl Int) (h2 : h.xs.length ≤ 200) : p11 n h p = some (decide (thr p.xs h.xs)) := by
  unfold p11
  rw [len_def, len_def]
  by_cases hl : h.xs.length < p.xs.length
  · obtain ⟨ps, pc⟩ := p
    have hl : h.xs.length < ps.length := hl
    rw [if_pos (by rw [decide_eq_true_eq]; show (ps.length : Int) > (h.xs.length : Int); omega), slI_cut (by omega), Option.bind_some, p22_eq hn _ _ (.inr h2)]
    show some (decide (ps.take h.xs.length = h.xs)) = _
    congr 1
    exact decide_eq_decide.2 ⟨fun e => ⟨hl, e⟩, fun e => e.2⟩
  · rw [if_neg (by rw [decide_eq_true_eq]; omega), decide_eq_false (fun e => hl e.1)]; rfl
/-- A path that leads to a port. -/
def okP (p : List Int) : Prop := (1 ≤ p.length ∧ p.length ≤ 6) ∧ ∀ x ∈ p, 1 ≤ x ∧ x ≤ 7
instance (p : List Int) : Decidable (okP p) := inferInstanceAs (Decidable (_ ∧ _))
theorem p43_28_l1_eq (n : Nat) (a : Sl Int) (h2 : a.xs.length ≤ 200) : ∀ (m k : Nat), k ≤ a.xs.length → a.xs.length - k < m →
    (p43_28_l1 n a m k = some (.inl ()) ∧ ∀ x ∈ a.xs.drop k, 1 ≤ x ∧ x ≤ 7) ∨ ∃ j : Nat, p43_28_l1 n a m k = some (.inr (j : Int)) ∧ ¬ ∀ x ∈ a.xs.drop k, 1 ≤ x ∧ x ≤ 7 := by
  intro m
  induction m with
  | zero => intro k _ h; exact absurd h (by omega)
  | succ m ih =>
    intro k hk hm
    unfold p43_28_l1
    rw [len_def]
    by_cases hlt : k < a.xs.length
    · rw [if_pos (decide_eq_true (show (k : Int) < (a.xs.length : Int) by omega)), idxE hlt, Option.bind_some, drop_cons hlt]
      unfold p28
      rw [orS, Option.bind_some, Option.bind_some]
      by_cases e : 1 ≤ a.xs[k] ∧ a.xs[k] ≤ 7
      · rw [decide_eq_false (by omega), decide_eq_false (by omega), if_neg (by decide), ckS (by omega) (by omega), Option.bind_some, castS]
        rcases ih (k + 1) (by omega) (by omega) with ⟨h1, h3⟩ | ⟨j, h1, h3⟩
        · exact .inl ⟨h1, List.forall_mem_cons.2 ⟨e, h3⟩⟩
        · exact .inr ⟨j, h1, fun q => h3 (List.forall_mem_cons.1 q).2⟩
      · refine .inr ⟨k, ?_, fun q => e (List.forall_mem_cons.1 q).1⟩
        rw [if_pos]
        by_cases e2 : a.xs[k] < 1
        · rw [decide_eq_true e2]; rfl
        · rw [decide_eq_true (show a.xs[k] > 7 by omega), Bool.or_true]
    · rw [if_neg (by rw [decide_eq_true_eq]; omega), List.drop_eq_nil_of_le (by omega)]
      exact .inl ⟨rfl, fun x hx => by cases hx⟩
theorem p13_eq {n : Nat} (hn : 300 ≤ n) (a : Sl Int) : p13 n a = some (if okP a.xs then 0 else 1) := by
  unfold p13
  rw [len_def, orS, Option.bind_some]
  by_cases hl : 1 ≤ a.xs.length ∧ a.xs.length ≤ 6
  · rw [decide_eq_false (by omega), decide_eq_false (by omega)]
    unfold p27_28 p43_28
    rcases p43_28_l1_eq n a (by omega) n 0 (Nat.zero_le _) (by omega) with ⟨h1, h3⟩ | ⟨j, h1, h3⟩
    · rw [show p43_28_l1 n a n 0 = _ from h1, List.drop_zero] at *
      rw [if_pos (show okP a.xs from ⟨hl, h3⟩)]; rfl
    · rw [List.drop_zero] at h3
      rw [show p43_28_l1 n a n 0 = _ from h1, if_neg (show ¬ okP a.xs from fun e => h3 e.2)]
      show ((if (false || false) = false then ((some (decide ((j : Int) ≥ 0))).bind fun t_5 => some t_5) else some true).bind _) = _
      rw [decide_eq_true (by omega)]; rfl
  · rw [if_neg (show ¬ okP a.xs from fun e => hl e.1)]
    rw [show (decide ((a.xs.length : Int) < 1) || decide ((a.xs.length : Int) > 6)) = true by
      by_cases e : (a.xs.length : Int) < 1
      · rw [decide_eq_true e]; rfl
      · rw [decide_eq_true (show (a.xs.length : Int) > 6 by omega), Bool.or_true]]
    rfl
theorem p42_eq (n : Nat) (a : Sl Int) (h : a.xs.length ≤ 1000000) : p42 n a = some ⟨a.xs, capA (some 0) a.xs.length⟩ := by
  unfold p42
  rw [appI_ok (by show 0 + a.xs.length ≤ _; omega), Option.bind_some, List.nil_append]
theorem p26_eq (n : Nat) (a : Sl Int) (h : a.xs.length ≤ 1000000) : p26 n a = some ⟨a.xs, some a.xs.length⟩ := by
  unfold p26
  rw [p42_eq n a h, Option.bind_some, sl3I_all]
  rfl
theorem p29_eq (n : Nat) (a : Sl Int) (h1 : 1 ≤ a.xs.length) (h : a.xs.length ≤ 1000000) : ∃ q, p29 n a = some (⟨a.xs.dropLast, some a.xs.dropLast.length⟩, q) := by
  unfold p29
  obtain ⟨xs, c⟩ := a
  have h1 : 1 ≤ xs.length := h1
  have h : xs.length ≤ 1000000 := h
  rw [lenI_mk, if_neg (by simp; intro e; rw [e] at h1; simp at h1), ckS (by omega) (by omega), Option.bind_some]
  rw [show (xs.length : Int) - 1 = ((xs.length - 1 : Nat) : Int) by omega, slI_cut (by omega), Option.bind_some, p42_eq n _ (by show (xs.take _).length ≤ _; rw [List.length_take]; omega), Option.bind_some]
  unfold p44
  rw [sl3I_all, Option.bind_some, Option.bind_some, idxD 0 (show xs.length - 1 < xs.length by omega), Option.bind_some]
  rw [show xs.take (xs.length - 1) = xs.dropLast from (List.dropLast_eq_take ..).symm]
  exact ⟨_, rfl⟩
end Go.Proofs.Ytflieonbbggmhaa
