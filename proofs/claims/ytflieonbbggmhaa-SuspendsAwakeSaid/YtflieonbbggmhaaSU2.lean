/- Suspends in plain words: lists of nodes. Plain theorems, no condition. -/
import Derived.Test.YtflieonbbggmhaaSU1
set_option linter.unusedVariables false
set_option linter.unusedSimpArgs false
namespace Go.Proofs.Ytflieonbbggmhaa
open Go.RowKit

abbrev Nd := Sl Int × Bool × Bool × Bool × Int
def pa (x : Nd) : List Int := x.1.xs
def busy (x : Nd) : Bool := x.2.1
def asl (x : Nd) : Bool := x.2.2.2.1
def qt (x : Nd) : Int := x.2.2.2.2
def okN (x : Nd) : Prop := okP (pa x) ∧ 0 ≤ qt x ∧ (busy x && asl x) = false ∧ (0 < qt x → busy x = false ∧ asl x = false)
/-- A valid list. -/
structure V (l : List Nd) : Prop where
  len : l.length ≤ 127
  ok : ∀ x ∈ l, okN x
  sorted : l.Pairwise fun x y => pa x < pa y
  par : ∀ x ∈ l, 1 < (pa x).length → ∃ y ∈ l, pa y = (pa x).dropLast ∧ (asl x = true ∨ asl y = false)
theorem V.plen {l : List Nd} (h : V l) : ∀ x ∈ l, (pa x).length ≤ 6 := fun x hx => (h.ok x hx).1.1.2
theorem sorted_uniq {l : List Nd} (h : l.Pairwise fun x y => pa x < pa y) : ∀ x ∈ l, ∀ y ∈ l, pa x = pa y → x = y := by
  induction l with
  | nil => intro x hx; cases hx
  | cons a l ih =>
    obtain ⟨h1, h2⟩ := List.pairwise_cons.1 h
    intro x hx y hy e
    rcases List.mem_cons.1 hx with e1 | hx' <;> rcases List.mem_cons.1 hy with e2 | hy'
    · rw [e1, e2]
    · have := h1 y hy'; rw [← e, e1] at this; exact absurd this (List.lt_irrefl _)
    · have := h1 x hx'; rw [e, e2] at this; exact absurd this (List.lt_irrefl _)
    · exact ih h2 x hx' y hy' e
theorem dropLast_lt : ∀ {p : List Int}, p ≠ [] → p.dropLast < p
  | [], h => absurd rfl h
  | [x], _ => List.nil_lt_cons _ _
  | x :: y :: t, _ => by
    rw [List.dropLast_cons_cons]
    exact List.cons_lt_cons_iff.2 (.inr ⟨rfl, dropLast_lt (by simp)⟩)
theorem p45_46_l1_eq {n : Nat} (hn : 300 ≤ n) {l : List Nd} {c : Option Nat} {p : Sl Int} (hl : l.length ≤ 200) (hp : p.xs.length ≤ 200) : ∀ (m k : Nat), k ≤ l.length → l.length - k < m →
    (p45_46_l1 n ⟨l, c⟩ p m k = some (.inl ()) ∧ ∀ x ∈ l.drop k, pa x ≠ p.xs) ∨ ∃ (j : Nat) (h : j < l.length), p45_46_l1 n ⟨l, c⟩ p m k = some (.inr (j : Int)) ∧ pa l[j] = p.xs := by
  intro m
  induction m with
  | zero => intro k _ h; exact absurd h (by omega)
  | succ m ih =>
    intro k hk hm
    unfold p45_46_l1
    rw [lenI_mk]
    by_cases hlt : k < l.length
    · rw [if_pos (decide_eq_true (show (k : Int) < (l.length : Int) by omega)), show idx (⟨l, c⟩ : Sl Nd).xs (k : Int) = some l[k] from idxE hlt, Option.bind_some]
      unfold p46
      rw [p36_eq hn _ _ (.inr hp), Option.bind_some, Option.bind_some]
      by_cases e : pa l[k] = p.xs
      · right
        rw [if_pos (decide_eq_true (show l[k].1.xs = p.xs from e))]
        exact ⟨k, hlt, rfl, e⟩
      · rw [if_neg (by rw [decide_eq_true_eq]; exact e), ckS (by omega) (by omega), Option.bind_some, castS, drop_cons hlt]
        rcases ih (k + 1) (by omega) (by omega) with ⟨h1, h2⟩ | h
        · exact .inl ⟨h1, List.forall_mem_cons.2 ⟨e, h2⟩⟩
        · exact .inr h
    · left
      rw [if_neg (by rw [decide_eq_true_eq]; omega), List.drop_eq_nil_of_le (by omega)]
      exact ⟨rfl, fun x hx => by cases hx⟩
theorem p30_eq {n : Nat} (hn : 300 ≤ n) {l : List Nd} {c : Option Nat} {p : Sl Int} (hl : l.length ≤ 200) (hp : p.xs.length ≤ 200) :
    (p30 n ⟨l, c⟩ p = some (-1) ∧ ∀ x ∈ l, pa x ≠ p.xs) ∨ ∃ (j : Nat) (h : j < l.length), p30 n ⟨l, c⟩ p = some (j : Int) ∧ pa l[j] = p.xs := by
  unfold p30 p45_46
  rcases p45_46_l1_eq hn (c := c) hl hp n 0 (Nat.zero_le _) (by omega) with ⟨h1, h2⟩ | ⟨j, h, h1, h2⟩
  · left
    rw [show p45_46_l1 n ⟨l, c⟩ p n 0 = _ from h1]
    exact ⟨rfl, h2⟩
  · right
    rw [show p45_46_l1 n ⟨l, c⟩ p n 0 = _ from h1]
    exact ⟨j, h, rfl, h2⟩
theorem p10_l1_eq {n : Nat} (hn : 300 ≤ n) {l : List Nd} {c : Option Nat} {p : Sl Int} (hl : l.length ≤ 200) (hp : p.xs.length ≤ 200) : ∀ (m k : Nat), k ≤ l.length → l.length - k < m →
    (p10_l1 n ⟨l, c⟩ p m k = some (.inl ()) ∧ ∀ x ∈ l.drop k, pa x ≠ p.xs) ∨ ∃ (j : Nat) (h : j < l.length), p10_l1 n ⟨l, c⟩ p m k = some (.inr (j : Int)) ∧ pa l[j] = p.xs := by
  intro m
  induction m with
  | zero => intro k _ h; exact absurd h (by omega)
  | succ m ih =>
    intro k hk hm
    unfold p10_l1
    rw [lenI_mk]
    by_cases hlt : k < l.length
    · rw [if_pos (decide_eq_true (show (k : Int) < (l.length : Int) by omega)), show idx (⟨l, c⟩ : Sl Nd).xs (k : Int) = some l[k] from idxE hlt, Option.bind_some]
      rw [p22_eq hn _ _ (.inr hp), Option.bind_some]
      by_cases e : pa l[k] = p.xs
      · right
        rw [if_pos (decide_eq_true (show l[k].1.xs = p.xs from e))]
        exact ⟨k, hlt, rfl, e⟩
      · rw [if_neg (by rw [decide_eq_true_eq]; exact e), ckS (by omega) (by omega), Option.bind_some, castS, drop_cons hlt]
        rcases ih (k + 1) (by omega) (by omega) with ⟨h1, h2⟩ | h
        · exact .inl ⟨h1, List.forall_mem_cons.2 ⟨e, h2⟩⟩
        · exact .inr h
    · left
      rw [if_neg (by rw [decide_eq_true_eq]; omega), List.drop_eq_nil_of_le (by omega)]
      exact ⟨rfl, fun x hx => by cases hx⟩
theorem p10_eq {n : Nat} (hn : 300 ≤ n) {l : List Nd} {c : Option Nat} {p : Sl Int} (hl : l.length ≤ 200) (hp : p.xs.length ≤ 200) :
    (p10 n ⟨l, c⟩ p = some (-1) ∧ ∀ x ∈ l, pa x ≠ p.xs) ∨ ∃ (j : Nat) (h : j < l.length), p10 n ⟨l, c⟩ p = some (j : Int) ∧ pa l[j] = p.xs := by
  unfold p10
  rcases p10_l1_eq hn (c := c) hl hp n 0 (Nat.zero_le _) (by omega) with ⟨h1, h2⟩ | ⟨j, h, h1, h2⟩
  · left
    rw [show p10_l1 n ⟨l, c⟩ p n 0 = _ from h1]
    exact ⟨rfl, h2⟩
  · right
    rw [show p10_l1 n ⟨l, c⟩ p n 0 = _ from h1]
    exact ⟨j, h, rfl, h2⟩
theorem sorted_lt {l : List Nd} (h : l.Pairwise fun x y => pa x < pa y) {i j : Nat} (hi : i < l.length) (hj : j < l.length) : pa l[i] < pa l[j] ↔ i < j := by
  have hp := List.pairwise_iff_getElem.1 h
  constructor
  · intro hlt
    rcases Nat.lt_trichotomy i j with e | e | e
    · exact e
    · subst e; exact absurd hlt (List.lt_irrefl _)
    · exact absurd (List.lt_trans hlt (hp j i hj hi e)) (List.lt_irrefl _)
  · intro e; exact hp i j hi hj e
theorem sorted_eq {l : List Nd} (h : l.Pairwise fun x y => pa x < pa y) {i j : Nat} (hi : i < l.length) (hj : j < l.length) (e : pa l[i] = pa l[j]) : i = j := by
  rcases Nat.lt_trichotomy i j with q | q | q
  · have := (sorted_lt h hi hj).2 q; rw [e] at this; exact absurd this (List.lt_irrefl _)
  · exact q
  · have := (sorted_lt h hj hi).2 q; rw [e] at this; exact absurd this (List.lt_irrefl _)
theorem p38_ok {n : Nat} (hn : 300 ≤ n) {l : List Nd} {c : Option Nat} (h : V l) {k : Nat} (hk : k < l.length) : p38 n ⟨l.take k, c⟩ l[k] = some true := by
  have hl := h.len
  have hx := List.getElem_mem hk
  obtain ⟨o1, o2, o3, o4⟩ := h.ok l[k] hx
  have hne : (pa l[k]).length ≠ 0 := by have := o1.1.1; omega
  unfold p38
  rw [show lenI l[k].1 = ((pa l[k]).length : Int) from rfl, show (((pa l[k]).length : Int) == 0) = false from beq_eq_false_iff_ne.2 (by omega), if_pos rfl, p13_eq hn, Option.bind_some, if_pos (show okP l[k].1.xs from o1), Option.bind_some, show ((0 : Int) != 0) = false from rfl, if_pos rfl, Option.bind_some]
  rw [show l[k].2.2.2.2 = qt l[k] from rfl, show l[k].2.1 = busy l[k] from rfl, show l[k].2.2.2.1 = asl l[k] from rfl, decide_eq_false (show ¬ qt l[k] < 0 by omega), if_pos rfl, andS, Option.bind_some, o3, Option.bind_some, if_pos rfl, orS, Option.bind_some, andS, Option.bind_some, Option.bind_some]
  rw [show (decide (qt l[k] > 0) && (busy l[k] || asl l[k])) = false by
    by_cases e : 0 < qt l[k]
    · rw [(o4 e).1, (o4 e).2, decide_eq_true e]; rfl
    · rw [decide_eq_false (show ¬ qt l[k] > 0 from e)]; rfl, if_neg (by decide)]
  have htk : (l.take k).length = k := by rw [List.length_take]; omega
  rw [lenI_mk, htk]
  have eprev : (if decide ((k : Int) > 0) = true then (ckI .i64 ((k : Int) - 1)).bind fun x_39 => (idx (l.take k) x_39).bind fun y_40 => (p32 n y_40.1 l[k].1).bind fun t_48 => some (decide (t_48 ≥ 0)) else some false) = some false := by
    by_cases hk0 : k = 0
    · rw [if_neg (by rw [decide_eq_true_eq]; omega)]
    · rw [if_pos (by rw [decide_eq_true_eq]; omega), ckS (by omega) (by omega), Option.bind_some, show (k : Int) - 1 = ((k - 1 : Nat) : Int) by omega, idxE (show k - 1 < (l.take k).length by omega), Option.bind_some, List.getElem_take]
      have hlt : pa l[k-1] < pa l[k] := (sorted_lt h.sorted (by omega) hk).2 (by omega)
      rw [p32_eq hn _ _ (.inl (by have := h.plen _ (List.getElem_mem (show k - 1 < l.length by omega)); show (pa l[k-1]).length ≤ 200; omega)), Option.bind_some]
      unfold cmpL
      rw [if_pos (show l[k-1].1.xs < l[k].1.xs from hlt)]
      rfl
  rw [eprev, Option.bind_some, if_neg (by decide)]
  by_cases h1 : (pa l[k]).length = 1
  · rw [h1]; rfl
  · rw [if_neg (by simp; omega)]
    obtain ⟨q, hq⟩ := p29_eq n l[k].1 (by show 1 ≤ (pa l[k]).length; omega) (by have := o1.1.2; show (pa l[k]).length ≤ _; omega)
    rw [hq, Option.bind_some]
    obtain ⟨y, hy, hyp, hya⟩ := h.par l[k] hx (by have := o1.1.1; omega)
    obtain ⟨j, hj, rfl⟩ := List.getElem_of_mem hy
    have hjk : j < k := (sorted_lt h.sorted hj hk).1 (by rw [hyp]; exact dropLast_lt (by intro e; rw [e] at hne; exact hne rfl))
    have hplen : (l[k].1.xs.dropLast).length ≤ 200 := by rw [List.length_dropLast]; have := o1.1.2; show (pa l[k]).length - 1 ≤ 200; omega
    rcases p30_eq hn (l := l.take k) (c := c) (p := ⟨l[k].1.xs.dropLast, some l[k].1.xs.dropLast.length⟩) (by omega) hplen with ⟨_, h3⟩ | ⟨i, hi, h2, h3⟩
    · exact absurd hyp (h3 l[j] (List.mem_iff_getElem.2 ⟨j, by omega, by rw [List.getElem_take]⟩))
    · rw [List.getElem_take] at h3
      have hil : i < l.length := by omega
      obtain rfl : i = j := sorted_eq h.sorted hil hj (by rw [h3, hyp]; rfl)
      rw [h2, Option.bind_some, if_pos (by rw [decide_eq_true_eq]; omega), idxE (show i < (l.take k).length by omega), Option.bind_some, List.getElem_take]
      show ((if asl l[k] = false then some (!asl l[i]) else some true).bind fun q_235 => some q_235).bind (fun q => some q) = some true
      rcases hya with e | e
      · rw [e]; rfl
      · rw [e]; cases asl l[k] <;> rfl
theorem p19_ok {n : Nat} (hn : 300 ≤ n) {l : List Nd} {c : Option Nat} (h : V l) : p19 n ⟨l, c⟩ = some 0 := by
  have hl := h.len
  unfold p19
  rw [lenI_mk, if_neg (by rw [decide_eq_true_eq]; omega)]
  have key : ∀ (m k : Nat), k ≤ l.length → l.length - k < m → p19_l1 n ⟨l, c⟩ m k = some (.inl ()) := by
    intro m
    induction m with
    | zero => intro k _ h; exact absurd h (by omega)
    | succ m ih =>
      intro k hk hm
      unfold p19_l1
      rw [lenI_mk]
      by_cases hlt : k < l.length
      · rw [if_pos (decide_eq_true (show (k : Int) < (l.length : Int) by omega)), show idx (⟨l, c⟩ : Sl Nd).xs (k : Int) = some l[k] from idxE hlt, Option.bind_some, slI_cut (by omega), Option.bind_some, p38_ok hn h hlt, Option.bind_some, if_neg (by decide), ckS (by omega) (by omega), Option.bind_some, castS]
        exact ih (k + 1) (by omega) (by omega)
      · rw [if_neg (by rw [decide_eq_true_eq]; show ¬ ((k : Int) < (l.length : Int)); omega)]
  rw [show p19_l1 n ⟨l, c⟩ n 0 = _ from key n 0 (Nat.zero_le _) (by omega)]
  rfl
/-- A node with memory of its own. -/
def ownN (x : Nd) : Nd := (⟨x.1.xs, some x.1.xs.length⟩, x.2.1, x.2.2.1, x.2.2.2.1, x.2.2.2.2)
theorem set_mid {α : Type} (a : List α) (x y : α) (b : List α) {k : Nat} (h : k = a.length) : (a ++ x :: b).set k y = a ++ y :: b := by
  subst h; simp
theorem p23_eq {n : Nat} (hn : 300 ≤ n) {l : List Nd} {c : Option Nat} (hl : l.length ≤ 200) (hp : ∀ x ∈ l, (pa x).length ≤ 1000000) : p23 n ⟨l, c⟩ = some ⟨l.map ownN, some l.length⟩ := by
  unfold p23
  rw [lenI_mk, mkI_ok (by omega) (by omega) (by omega), Option.bind_some, Int.toNat_natCast]
  have key : ∀ (m k : Nat), k ≤ l.length → l.length - k < m → p23_l1 n ⟨l, c⟩ m k ((l.take k).map ownN ++ List.replicate (l.length - k) (⟨[], some 0⟩, false, false, false, 0)) = some (l.map ownN) := by
    intro m
    induction m with
    | zero => intro k _ h; exact absurd h (by omega)
    | succ m ih =>
      intro k hk hm
      have htk : ((l.take k).map ownN).length = k := by rw [List.length_map, List.length_take]; omega
      unfold p23_l1
      rw [lenI_mk]
      by_cases hlt : k < l.length
      · have hx := hp l[k] (List.getElem_mem hlt)
        have hr : List.replicate (l.length - k) ((⟨[], some 0⟩, false, false, false, 0) : Nd) = (⟨[], some 0⟩, false, false, false, 0) :: List.replicate (l.length - (k + 1)) (⟨[], some 0⟩, false, false, false, 0) := by
          rw [show l.length - k = (l.length - (k + 1)) + 1 by omega, List.replicate_succ]
        have hmid : ∀ (z : Nd) (b : List Nd), idx ((l.take k).map ownN ++ z :: b) (k : Int) = some z := fun z b => by
          rw [idx_nat, List.getElem?_append_right (by omega), htk, Nat.sub_self]; rfl
        rw [if_pos (decide_eq_true (show (k : Int) < (l.length : Int) by omega)), show idx (⟨l, c⟩ : Sl Nd).xs (k : Int) = some l[k] from idxE hlt, Option.bind_some, hr, hmid, Option.bind_some, p26_eq n _ hx, Option.bind_some, Int.toNat_natCast, set_mid _ _ _ _ htk.symm, hmid, Option.bind_some, ckS (by omega) (by omega), Option.bind_some, set_mid _ _ _ _ htk.symm, castS]
        have := ih (k + 1) (by omega) (by omega)
        rw [List.take_succ_eq_append_getElem hlt, List.map_append, List.append_assoc] at this
        exact this
      · obtain rfl : k = l.length := by omega
        rw [if_neg (by rw [decide_eq_true_eq]; show ¬ ((l.length : Int) < (l.length : Int)); omega), List.take_length, Nat.sub_self, List.replicate_zero, List.append_nil]
  have := key n 0 (Nat.zero_le _) (by omega)
  rw [List.take_zero, List.map_nil, List.nil_append, Nat.sub_zero] at this
  rw [show p23_l1 n ⟨l, c⟩ n 0 (List.replicate l.length _) = _ from this]
  rfl
/-- Is a node woken on the way to a path? -/
def wak (p : List Int) (x : Nd) : Bool := asl x && (decide (pa x = p) || decide (thr p (pa x)))
def awN (p : List Int) (x : Nd) : Nd := if wak p x then (x.1, x.2.1, x.2.2.1, false, x.2.2.2.2) else x
def ords (p : List Int) (l : List Nd) : List (Sl Int × Bool) := (l.filter (wak p)).map fun x => (⟨x.1.xs, some x.1.xs.length⟩, true)
theorem p31_eq {n : Nat} (hn : 300 ≤ n) {l : List Nd} {c : Option Nat} {p : Sl Int} (hl : l.length ≤ 200) (hp : p.xs.length ≤ 200) (hpl : ∀ x ∈ l, (pa x).length ≤ 200) : p31 n ⟨l, c⟩ p = some (⟨ords p.xs l, some (ords p.xs l).length⟩, l.map (awN p.xs)) := by
  have key : ∀ (m k : Nat), k ≤ l.length → l.length - k < m → p31_l1 n ⟨l, c⟩ p m k ((l.take k).map (awN p.xs) ++ l.drop k) (ords p.xs (l.take k)) = some (ords p.xs l, l.map (awN p.xs)) := by
    intro m
    induction m with
    | zero => intro k _ h; exact absurd h (by omega)
    | succ m ih =>
      intro k hk hm
      have htk : ((l.take k).map (awN p.xs)).length = k := by rw [List.length_map, List.length_take]; omega
      unfold p31_l1
      rw [lenI_mk]
      by_cases hlt : k < l.length
      · have hx := hpl l[k] (List.getElem_mem hlt)
        have hmid : ∀ (z : Nd) (b : List Nd), idx ((l.take k).map (awN p.xs) ++ z :: b) (k : Int) = some z := fun z b => by
          rw [idx_nat, List.getElem?_append_right (by omega), htk, Nat.sub_self]; rfl
        rw [if_pos (decide_eq_true (show (k : Int) < (l.length : Int) by omega)), drop_cons hlt, hmid, Option.bind_some]
        rw [p36_eq hn _ _ (.inr hp), Option.bind_some, p37_eq hn _ _ hx, Option.bind_some, orS, Option.bind_some, andS, Option.bind_some]
        rw [show (l[k].2.2.2.1 && (decide (l[k].1.xs = p.xs) || decide (thr p.xs l[k].1.xs))) = wak p.xs l[k] from rfl]
        have ih' := ih (k + 1) (by omega) (by omega)
        rw [List.take_succ_eq_append_getElem hlt, List.map_append, List.append_assoc] at ih'
        have hords : ords p.xs (l.take k ++ [l[k]]) = ords p.xs (l.take k) ++ if wak p.xs l[k] then [(⟨l[k].1.xs, some l[k].1.xs.length⟩, true)] else [] := by
          unfold ords
          rw [List.filter_append, List.map_append]
          cases hw : wak p.xs l[k] <;> simp [List.filter_cons, hw]
        have hol : (ords p.xs (l.take k)).length ≤ 200 := by
          unfold ords
          rw [List.length_map]
          have := List.length_filter_le (wak p.xs) (l.take k)
          rw [List.length_take] at this; omega
        cases hw : wak p.xs l[k] with
        | true =>
          rw [hw, if_pos rfl] at hords
          rw [if_pos rfl, Option.bind_some, p26_eq n _ (by show (pa l[k]).length ≤ _; omega), Option.bind_some, appI_ok (by rw [List.length_singleton]; omega), Option.bind_some, Option.bind_some, ckS (by omega) (by omega), Option.bind_some, castS, Int.toNat_natCast, set_mid _ _ _ _ htk.symm, ← hords]
          have e : (l[k].1, l[k].2.1, l[k].2.2.1, false, l[k].2.2.2.2) = awN p.xs l[k] := by unfold awN; rw [hw, if_pos rfl]
          rw [e]
          exact ih'
        | false =>
          rw [hw, if_neg (by decide), List.append_nil] at hords
          rw [if_neg (by decide), Option.bind_some, ckS (by omega) (by omega), Option.bind_some, castS, ← hords]
          have e : l[k] = awN p.xs l[k] := by unfold awN; rw [hw, if_neg (by decide)]
          have e2 : (l.take k).map (awN p.xs) ++ l[k] :: l.drop (k + 1) = (l.take k).map (awN p.xs) ++ (List.map (awN p.xs) [l[k]] ++ l.drop (k + 1)) := by
            rw [List.map_cons, ← e]; rfl
          rw [e2]
          exact ih'
      · obtain rfl : k = l.length := by omega
        rw [if_neg (by rw [decide_eq_true_eq]; show ¬ ((l.length : Int) < (l.length : Int)); omega), List.take_length, List.drop_length, List.append_nil]
  unfold p31
  have := key n 0 (Nat.zero_le _) (by omega)
  rw [List.take_zero, List.map_nil, List.nil_append, List.drop_zero] at this
  rw [show p31_l1 n ⟨l, c⟩ p n 0 (⟨l, c⟩ : Sl Nd).xs [] = _ from this, Option.bind_some, sl3I_all]
  rfl
end Go.Proofs.Ytflieonbbggmhaa
