/- Suspends: the law of lists that are checked, in plain words. Plain theorems, no condition. -/
import Derived.Test.YtflieonbbggmhaaSU5
import Derived.Test.YtflieonbbggmhaaPc1
import Derived.Test.YtflieonbbggmhaaXE16
set_option linter.unusedVariables false
set_option linter.unusedSimpArgs false
namespace Go.Proofs.Ytflieonbbggmhaa
open Go.RowKit

set_option maxRecDepth 1000000 in
theorem lives5 : p8 6000 = some true := by kernel_rfl
/-- Is a node in its place good, behind those before it? -/
def lastB (l : List Nd) (i : Nat) (x : Nd) : Bool := decide (i = 0) || decide (pa (l.getD (i - 1) x) < pa x)
def hostB (m : List Nd) (x : Nd) : Bool := m.any fun y => decide (pa y = (pa x).dropLast) && (asl x || !asl y)
def selfB (x : Nd) : Bool := decide (okP (pa x)) && decide (qt x ≥ 0) && (qt x == 0 || (!busy x && !asl x)) && !(busy x && asl x)
def okB (l : List Nd) (i : Nat) (x : Nd) : Bool := selfB x && lastB l i x && (!decide (1 < (pa x).length) || hostB (l.take i) x)
theorem host_uniq {m : List Nd} (hs : m.Pairwise fun x y => pa x < pa y) {j : Nat} (hj : j < m.length) {x : Nd} (h : pa m[j] = (pa x).dropLast) : hostB m x = (asl x || !asl m[j]) := by
  unfold hostB
  cases e : (asl x || !asl m[j]) with
  | true =>
    rw [List.any_eq_true]
    exact ⟨_, List.getElem_mem hj, by rw [decide_eq_true h, e]; rfl⟩
  | false =>
    rw [List.any_eq_false]
    intro y hy
    by_cases q : pa y = (pa x).dropLast
    · rw [sorted_uniq hs y hy _ (List.getElem_mem hj) (by rw [q, h]), e]; simp
    · rw [decide_eq_false q]; simp
theorem host_none {m : List Nd} {x : Nd} (h : ∀ y ∈ m, pa y ≠ (pa x).dropLast) : hostB m x = false := by
  unfold hostB
  rw [List.any_eq_false]
  intro y hy
  rw [decide_eq_false (h y hy)]; simp
theorem selfB_okP {x : Nd} (h : selfB x = true) : okP (pa x) := by
  unfold selfB at h
  simp only [Bool.and_eq_true, decide_eq_true_eq] at h
  exact h.1.1.1
theorem selfB_okN {x : Nd} (h : selfB x = true) : okN x := by
  unfold selfB at h
  simp only [Bool.and_eq_true, Bool.or_eq_true, decide_eq_true_eq, beq_iff_eq, Bool.not_eq_true'] at h
  obtain ⟨⟨⟨h1, h2⟩, h3⟩, h4⟩ := h
  exact ⟨h1, h2, h4, fun q => h3.resolve_left (by omega)⟩
theorem lastB_get {l : List Nd} {i : Nat} {x : Nd} (h0 : 0 < i) (hi : i - 1 < l.length) : lastB l i x = decide (pa l[i - 1] < pa x) := by
  unfold lastB
  rw [decide_eq_false (by omega), Bool.false_or, List.getD_eq_getElem?_getD, List.getElem?_eq_getElem hi]; rfl
theorem stpC {α : Type} {n : Nat} (hn : 300 ≤ n) {l : List Nd} {c : Option Nat} (hl : l.length ≤ 200) {i : Nat} (hi : i < l.length) (f : Bool → Option α) : ∃ q : Bool, ((idx (⟨l, c⟩ : Sl Nd).xs (i : Int)).bind fun y_87 => (if (decide ((lenI y_87.1) > 0)) = true then (p13 n y_87.1).bind fun t_105 => some (t_105 == 0) else some false).bind fun q_102 => (if q_102 = true then some (decide (y_87.2.2.2.2 ≥ 0)) else some false).bind fun q_111 => (if q_111 = true then (if (y_87.2.2.2.2 == 0) = false then (if (!y_87.2.1) = true then some (!y_87.2.2.2.1) else some false).bind fun q_120 => some q_120 else some true).bind fun q_117 => some q_117 else some false).bind fun q_114 => (if q_114 = true then (if y_87.2.1 = true then some y_87.2.2.2.1 else some false).bind fun q_126 => some (!q_126) else some false).bind fun q_123 => (if q_123 = true then (if ((i : Int) == 0) = false then (ckI .i64 ((i : Int) - 1)).bind fun x_133 => (idx (⟨l, c⟩ : Sl Nd).xs x_133).bind fun y_134 => (p14 n y_134.1 y_87.1).bind fun t_142 => some t_142 else some true).bind fun q_131 => some q_131 else some false).bind fun q_129 => (if q_129 = true then some (decide ((lenI y_87.1) > 1)) else some false).bind fun q_399 => (if q_399 then ((slI (⟨l, c⟩ : Sl Nd) 0 (i : Int)).bind fun s_406 => (ckI .i64 ((lenI y_87.1) - 1)).bind fun x_412 => (slI y_87.1 0 x_412).bind fun s_415 => (p10 n s_406 s_415).bind fun t_416 => (if (decide (t_416 ≥ 0)) = true then (if y_87.2.2.2.1 = false then (idx (⟨l, c⟩ : Sl Nd).xs t_416).bind fun y_486 => some (!y_486.2.2.2.1) else some true).bind fun q_485 => some q_485 else some false).bind fun q_482 => some q_482) else some q_129).bind f) = f q ∧ ((l.take i).Pairwise (fun x y => pa x < pa y) → q = okB l i l[i]) := by
  rw [show idx (⟨l, c⟩ : Sl Nd).xs (i : Int) = some l[i] from idxE hi, Option.bind_some]
  generalize hx : l[i] = x
  have e102 : (if decide (lenI x.1 > 0) = true then (p13 n x.1).bind fun t_105 => some (t_105 == 0) else some false) = some (decide (okP (pa x))) := by
    rw [p13_eq hn, len_def]
    by_cases h : okP (pa x)
    · have := h.1.1
      rw [if_pos (decide_eq_true (show (x.1.xs.length : Int) > 0 by show ((pa x).length : Int) > 0; omega)), if_pos (show okP x.1.xs from h), decide_eq_true h]; rfl
    · rw [if_neg (show ¬ okP x.1.xs from h), decide_eq_false h]
      split <;> rfl
  have e114 : ∀ q z b a : Bool, (if q = true then (if z = false then (if (!b) = true then some (!a) else some false).bind fun q_120 => some q_120 else some true).bind fun q_117 => some q_117 else some false) = some (q && (z || (!b && !a))) := by
    intro q z b a; cases q <;> cases z <;> cases b <;> cases a <;> rfl
  have e123 : ∀ q b a : Bool, (if q = true then (if b = true then some a else some false).bind fun q_126 => some (!q_126) else some false) = some (q && !(b && a)) := by
    intro q b a; cases q <;> cases b <;> cases a <;> rfl
  rw [e102, Option.bind_some, andS, Option.bind_some, e114, Option.bind_some, e123, Option.bind_some]
  rw [show (decide (okP (pa x)) && decide (x.2.2.2.2 ≥ 0) && (x.2.2.2.2 == 0 || !x.2.1 && !x.2.2.2.1) && !(x.2.1 && x.2.2.2.1)) = selfB x from rfl]
  cases hS : selfB x with
  | false =>
    rw [if_neg (by decide), Option.bind_some, if_neg (by decide), Option.bind_some, if_neg (by decide), Option.bind_some]
    refine ⟨false, rfl, fun _ => ?_⟩
    unfold okB
    rw [hS]; rfl
  | true =>
    have hok := selfB_okP hS
    have h6 := hok.1.2
    have e131 : (if ((i : Int) == 0) = false then (ckI .i64 ((i : Int) - 1)).bind fun x_133 => (idx (⟨l, c⟩ : Sl Nd).xs x_133).bind fun y_134 => (p14 n y_134.1 x.1).bind fun t_142 => some t_142 else some true) = some (lastB l i x) := by
      by_cases h0 : i = 0
      · subst h0; rfl
      · rw [if_pos (by simpa using h0), ckS (by omega) (by omega), Option.bind_some, show (i : Int) - 1 = ((i - 1 : Nat) : Int) by omega, show idx (⟨l, c⟩ : Sl Nd).xs ((i - 1 : Nat) : Int) = some l[i - 1] from idxE (show i - 1 < l.length by omega), Option.bind_some, p14_eq hn _ _ (.inr (by show (pa x).length ≤ 200; omega)), Option.bind_some, lastB_get (by omega) (by omega)]; rfl
    rw [if_pos rfl, e131, Option.bind_some, Option.bind_some, andS, Option.bind_some, len_def, show x.1.xs = pa x from rfl]
    unfold okB
    rw [hS, Bool.true_and]
    cases hL : lastB l i x with
    | false => rw [Bool.false_and, if_neg (by decide), Option.bind_some]; exact ⟨false, rfl, fun _ => rfl⟩
    | true =>
      rw [Bool.true_and, Bool.true_and]
      by_cases h1 : 1 < (pa x).length
      · rw [if_pos (by rw [decide_eq_true_eq]; omega), slI_cut (by omega), Option.bind_some, ckS (by omega) (by omega), Option.bind_some, show ((pa x).length : Int) - 1 = (((pa x).length - 1 : Nat) : Int) by omega, show slI x.1 0 (((pa x).length - 1 : Nat) : Int) = _ from slI_cut (l := x.1.xs) (cp := x.1.cap) (by show (pa x).length - 1 ≤ (pa x).length; omega), Option.bind_some]
        rw [show x.1.xs.take ((pa x).length - 1) = (pa x).dropLast from (List.dropLast_eq_take ..).symm, decide_eq_true h1, Bool.not_true, Bool.false_or]
        rcases p10_eq hn (l := l.take i) (c := c.map (· - 0)) (p := ⟨(pa x).dropLast, x.1.cap.map (· - 0)⟩) (by rw [List.length_take]; omega) (by show (pa x).dropLast.length ≤ 200; rw [List.length_dropLast]; omega) with ⟨q1, q2⟩ | ⟨j, hj, q1, q2⟩
        · rw [q1, Option.bind_some]
          exact ⟨false, rfl, fun _ => (host_none q2).symm⟩
        · have hj' : j < l.length := by rw [List.length_take] at hj; omega
          rw [q1, Option.bind_some, if_pos (by rw [decide_eq_true_eq]; omega), show idx (⟨l, c⟩ : Sl Nd).xs (j : Int) = some l[j] from idxE hj', Option.bind_some]
          refine ⟨asl x || !asl l[j], ?_, fun hs => ?_⟩
          · show (Option.bind (Option.bind (if asl x = false then some (!asl l[j]) else some true) _) _).bind f = _
            cases asl x <;> rfl
          · rw [host_uniq hs hj q2, List.getElem_take]
      · rw [if_neg (by rw [decide_eq_true_eq]; omega), Option.bind_some, decide_eq_false h1]
        exact ⟨true, rfl, fun _ => rfl⟩
theorem take_V {l : List Nd} {i : Nat} (hi : i < l.length) (h127 : i + 1 ≤ 127) (h : V (l.take i)) (ho : okB l i l[i] = true) : V (l.take (i + 1)) := by
  unfold okB at ho
  simp only [Bool.and_eq_true, Bool.or_eq_true, Bool.not_eq_true', decide_eq_false_iff_not] at ho
  obtain ⟨⟨h1, h2⟩, h3⟩ := ho
  have hN := selfB_okN h1
  rw [List.take_succ_eq_append_getElem hi]
  refine ⟨by rw [List.length_append, List.length_take, List.length_singleton]; omega, fun x hx => ?_, ?_, fun x hx hl => ?_⟩
  · rcases List.mem_append.1 hx with hx | hx
    · exact h.ok x hx
    · rw [List.mem_singleton.1 hx]; exact hN
  · refine List.pairwise_append.2 ⟨h.sorted, List.pairwise_singleton _ _, fun a ha b hb => ?_⟩
    rw [List.mem_singleton.1 hb]
    obtain ⟨j, hj, rfl⟩ := List.getElem_of_mem ha
    have hj' : j < i := by rw [List.length_take] at hj; omega
    rw [lastB_get (by omega) (by omega)] at h2
    have h2 := of_decide_eq_true h2
    by_cases e : j = i - 1
    · subst e; rw [List.getElem_take]; exact h2
    · have hk : i - 1 < (l.take i).length := by rw [List.length_take]; omega
      have := (sorted_lt h.sorted hj hk).2 (by omega)
      rw [List.getElem_take (i := i - 1)] at this
      exact List.lt_trans this h2
  · rcases List.mem_append.1 hx with hx | hx
    · obtain ⟨y, hy, h4⟩ := h.par x hx hl
      exact ⟨y, List.mem_append_left _ hy, h4⟩
    · rw [List.mem_singleton.1 hx] at hl ⊢
      have h3 := h3.resolve_left (fun q => q hl)
      unfold hostB at h3
      obtain ⟨y, hy, h4⟩ := List.any_eq_true.1 h3
      simp only [Bool.and_eq_true, Bool.or_eq_true, decide_eq_true_eq, Bool.not_eq_true'] at h4
      exact ⟨y, List.mem_append_left _ hy, h4.1, h4.2⟩
theorem p38_eq {n : Nat} (hn : 300 ≤ n) {l : List Nd} {c : Option Nat} (hl : l.length ≤ 200) {i : Nat} (hi : i < l.length) (hs : (l.take i).Pairwise fun x y => pa x < pa y) : p38 n ⟨l.take i, c⟩ l[i] = some (okB l i l[i]) := by
  generalize hx : l[i] = x
  have htk : (l.take i).length = i := by rw [List.length_take]; omega
  unfold p38
  have e1 : (if (lenI x.1 == 0) = false then (p13 n x.1).bind fun t_11 => some (t_11 != 0) else some true) = some (!decide (okP (pa x))) := by
    rw [p13_eq hn, len_def]
    by_cases h : okP (pa x)
    · have := h.1.1
      rw [if_pos (show ((x.1.xs.length : Int) == 0) = false from beq_eq_false_iff_ne.2 (by show ((pa x).length : Int) ≠ 0; omega)), if_pos (show okP x.1.xs from h), decide_eq_true h]; rfl
    · rw [if_neg (show ¬ okP x.1.xs from h), decide_eq_false h]
      split <;> rfl
  have e2 : ∀ q b a : Bool, (if q = false then (if b = true then some a else some false).bind fun q_23 => some q_23 else some true) = some (q || (b && a)) := by
    intro q b a; cases q <;> cases b <;> cases a <;> rfl
  have e3 : ∀ q z b a : Bool, (if q = false then (if z = true then (if b = false then some a else some true).bind fun q_32 => some q_32 else some false).bind fun q_29 => some q_29 else some true) = some (q || (z && (b || a))) := by
    intro q z b a; cases q <;> cases z <;> cases b <;> cases a <;> rfl
  rw [e1, Option.bind_some, orS, Option.bind_some, e2, Option.bind_some, e3, Option.bind_some]
  have hself : (!decide (okP (pa x)) || decide (x.2.2.2.2 < 0) || (x.2.1 && x.2.2.2.1) || (decide (x.2.2.2.2 > 0) && (x.2.1 || x.2.2.2.1))) = !selfB x := by
    unfold selfB
    show (!decide (okP (pa x)) || decide (qt x < 0) || (busy x && asl x) || (decide (qt x > 0) && (busy x || asl x))) = _
    rcases Int.lt_trichotomy (qt x) 0 with h | h | h
    · rw [decide_eq_true h, decide_eq_false (show ¬ qt x ≥ 0 by omega)]; simp
    · rw [h]; cases decide (okP (pa x)) <;> cases busy x <;> cases asl x <;> rfl
    · rw [decide_eq_false (show ¬ qt x < 0 by omega), decide_eq_true (show qt x > 0 from h), decide_eq_true (show qt x ≥ 0 by omega), show (qt x == 0) = false from beq_eq_false_iff_ne.2 (by omega)]
      cases decide (okP (pa x)) <;> cases busy x <;> cases asl x <;> rfl
  rw [hself]
  cases hS : selfB x with
  | false => rw [if_pos (by rfl)]; unfold okB; rw [hS]; rfl
  | true =>
    have hok := selfB_okP hS
    have h6 := hok.1.2
    have h11 := hok.1.1
    rw [if_neg (by decide), lenI_mk, htk]
    have e4 : (if decide ((i : Int) > 0) = true then (ckI .i64 ((i : Int) - 1)).bind fun x_39 => (idx (l.take i) x_39).bind fun y_40 => (p32 n y_40.1 x.1).bind fun t_48 => some (decide (t_48 ≥ 0)) else some false) = some (!lastB l i x) := by
      by_cases h0 : i = 0
      · subst h0; rfl
      · rw [if_pos (by rw [decide_eq_true_eq]; omega), ckS (by omega) (by omega), Option.bind_some, show (i : Int) - 1 = ((i - 1 : Nat) : Int) by omega, idxE (show i - 1 < (l.take i).length by omega), Option.bind_some, List.getElem_take, p32_eq hn _ _ (.inr (by show (pa x).length ≤ 200; omega)), Option.bind_some, lastB_get (by omega) (by omega)]
        unfold cmpL
        show some (decide ((if pa l[i - 1] < pa x then (-1 : Int) else if pa l[i - 1] = pa x then 0 else 1) ≥ 0)) = _
        by_cases q : pa l[i - 1] < pa x
        · rw [if_pos q, decide_eq_true q]; rfl
        · rw [if_neg q, decide_eq_false q]; split <;> rfl
    rw [e4, Option.bind_some]
    unfold okB
    rw [hS, Bool.true_and]
    cases hL : lastB l i x with
    | false => rfl
    | true =>
      rw [if_neg (by decide), Bool.true_and, len_def, show x.1.xs = pa x from rfl]
      by_cases h1 : (pa x).length = 1
      · rw [h1]; rfl
      · rw [if_neg (by simp; omega)]
        obtain ⟨q, hq⟩ := p29_eq n x.1 (by show 1 ≤ (pa x).length; omega) (by show (pa x).length ≤ _; omega)
        rw [hq, Option.bind_some, decide_eq_true (show 1 < (pa x).length by omega), Bool.not_true, Bool.false_or]
        rcases p30_eq hn (l := l.take i) (c := c) (p := ⟨x.1.xs.dropLast, some x.1.xs.dropLast.length⟩) (by omega) (by show (pa x).dropLast.length ≤ 200; rw [List.length_dropLast]; omega) with ⟨q1, q2⟩ | ⟨j, hj, q1, q2⟩
        · rw [q1, host_none q2]; rfl
        · rw [q1, Option.bind_some, if_pos (by rw [decide_eq_true_eq]; omega), idxE hj, Option.bind_some, host_uniq hs hj q2]
          show ((if asl x = false then some (!asl (l.take i)[j]) else some true).bind _).bind _ = _
          cases asl x <;> rfl
theorem p19_bad {n : Nat} (hn : 300 ≤ n) {l : List Nd} {c : Option Nat} (hl : l.length ≤ 127) {i : Nat} (hi : i < l.length) (h : V (l.take i)) (ho : okB l i l[i] = false) : p19 n ⟨l, c⟩ = some 1 := by
  have key : ∀ (m k : Nat), k ≤ i → i - k < m → p19_l1 n ⟨l, c⟩ m k = some (.inr 1) := by
    intro m
    induction m with
    | zero => intro k _ h; exact absurd h (by omega)
    | succ m ih =>
      intro k hk hm
      unfold p19_l1
      rw [lenI_mk, if_pos (decide_eq_true (show (k : Int) < (l.length : Int) by omega)), show idx (⟨l, c⟩ : Sl Nd).xs (k : Int) = some l[k] from idxE (show k < l.length by omega), Option.bind_some, slI_cut (by omega), Option.bind_some]
      by_cases e : k = i
      · subst e
        rw [p38_eq hn (by omega) hi h.sorted, ho]; rfl
      · have hki : k < (l.take i).length := by rw [List.length_take]; omega
        have := p38_ok hn (c := c.map (· - 0)) h hki
        rw [List.take_take, Nat.min_eq_left (by omega), List.getElem_take] at this
        rw [this, Option.bind_some, if_neg (by decide), ckS (by omega) (by omega), Option.bind_some, castS]
        exact ih (k + 1) (by omega) (by omega)
  unfold p19
  rw [lenI_mk, if_neg (by rw [decide_eq_true_eq]; omega), show p19_l1 n (⟨l, c⟩ : Sl Nd) n 0 = _ from key n 0 (Nat.zero_le _) (by omega)]
  rfl
theorem p19_long {n : Nat} {l : List Nd} {c : Option Nat} (hl : 127 < l.length) : p19 n ⟨l, c⟩ = some 3 := by
  unfold p19
  rw [lenI_mk, if_pos (by rw [decide_eq_true_eq]; omega)]
theorem p5_l2_any {n : Nat} (hn : 300 ≤ n) {l : List Nd} {c : Option Nat} (hl : l.length ≤ 200) : ∀ (m k : Nat) (b : Int), k ≤ l.length → l.length - k < m → ∃ b', p5_l2 n m k b ⟨l, c⟩ = some (⟨l, c⟩, b') ∧ (b = 1 → b' = 1)
  | 0, k, b, _, h => absurd h (by omega)
  | m + 1, k, b, hk, hm => by
    unfold p5_l2
    rw [lenI_mk]
    by_cases hlt : k < l.length
    · rw [if_pos (decide_eq_true (show (k : Int) < (l.length : Int) by omega))]
      obtain ⟨q, h1, _⟩ := stpC hn (c := c) hl hlt (fun j_403 => (if (!j_403) then (some 1) else some b).bind fun (j_493 : (Int)) => (ckI .i64 ((k : Int) + 1)).bind fun x_496 => p5_l2 n m x_496 j_493 ⟨l, c⟩)
      refine (?_ : ∃ b', _ = _ ∧ _)
      obtain ⟨b', h2, h3⟩ : ∃ b', ((if (!q) = true then (some (1 : Int)) else some b).bind fun (j_493 : (Int)) => (ckI .i64 ((k : Int) + 1)).bind fun x_496 => p5_l2 n m x_496 j_493 ⟨l, c⟩) = some (⟨l, c⟩, b') ∧ (b = 1 → b' = 1) := by
        cases q with
        | true =>
          rw [if_neg (by decide), Option.bind_some, ckS (by omega) (by omega), Option.bind_some, castS]
          exact p5_l2_any hn hl m (k + 1) b (by omega) (by omega)
        | false =>
          rw [if_pos (by rfl), Option.bind_some, ckS (by omega) (by omega), Option.bind_some, castS]
          obtain ⟨b', h2, h3⟩ := p5_l2_any hn (c := c) hl m (k + 1) 1 (by omega) (by omega)
          exact ⟨b', h2, fun _ => h3 rfl⟩
      exact ⟨b', h1.trans h2, h3⟩
    · rw [if_neg (by rw [decide_eq_true_eq]; omega)]
      exact ⟨b, rfl, id⟩
theorem p5_l2_eq {n : Nat} (hn : 300 ≤ n) {l : List Nd} {c : Option Nat} (hl : l.length ≤ 127) : ∀ (m k : Nat), k ≤ l.length → l.length - k < m → V (l.take k) →
    (V l ∧ p5_l2 n m k 0 ⟨l, c⟩ = some (⟨l, c⟩, 0)) ∨ (p19 n ⟨l, c⟩ = some 1 ∧ p5_l2 n m k 0 ⟨l, c⟩ = some (⟨l, c⟩, 1))
  | 0, k, _, h, _ => absurd h (by omega)
  | m + 1, k, hk, hm, hV => by
    unfold p5_l2
    rw [lenI_mk]
    by_cases hlt : k < l.length
    · rw [if_pos (decide_eq_true (show (k : Int) < (l.length : Int) by omega))]
      obtain ⟨q, h1, hq⟩ := stpC hn (c := c) (by omega) hlt (fun j_403 => (if (!j_403) then (some 1) else some 0).bind fun (j_493 : (Int)) => (ckI .i64 ((k : Int) + 1)).bind fun x_496 => p5_l2 n m x_496 j_493 ⟨l, c⟩)
      have hq := hq hV.sorted
      cases q with
      | true =>
        have h2 := p5_l2_eq hn (c := c) hl m (k + 1) (by omega) (by omega) (take_V hlt (by omega) hV hq.symm)
        have h3 : ((if (!true) = true then (some (1 : Int)) else some 0).bind fun (j_493 : (Int)) => (ckI .i64 ((k : Int) + 1)).bind fun x_496 => p5_l2 n m x_496 j_493 ⟨l, c⟩) = p5_l2 n m ((k + 1 : Nat) : Int) 0 ⟨l, c⟩ := by
          rw [if_neg (by decide), Option.bind_some, ckS (by omega) (by omega), Option.bind_some, castS]
        rcases h2 with ⟨a, b⟩ | ⟨a, b⟩
        · exact .inl ⟨a, (h1.trans h3).trans b⟩
        · exact .inr ⟨a, (h1.trans h3).trans b⟩
      | false =>
        obtain ⟨b', h2, h4⟩ := p5_l2_any hn (l := l) (c := c) (by omega) m (k + 1) 1 (by omega) (by omega)
        have h3 : ((if (!false) = true then (some (1 : Int)) else some 0).bind fun (j_493 : (Int)) => (ckI .i64 ((k : Int) + 1)).bind fun x_496 => p5_l2 n m x_496 j_493 ⟨l, c⟩) = p5_l2 n m ((k + 1 : Nat) : Int) 1 ⟨l, c⟩ := by
          rw [if_pos (by rfl), Option.bind_some, ckS (by omega) (by omega), Option.bind_some, castS]
        rw [h4 rfl] at h2
        exact .inr ⟨p19_bad hn hl hlt hV hq.symm, (h1.trans h3).trans h2⟩
    · obtain rfl : k = l.length := by omega
      rw [List.take_length] at hV
      exact .inl ⟨hV, by rw [if_neg (by rw [decide_eq_true_eq]; omega)]⟩
theorem w8 {z : Int} (h : 0 ≤ z ∧ z ≤ 255) : IntKind.wrap .u8 z = z := by rw [wrap_u8]; omega
theorem p5_l1_eq {n : Nat} {z : Int} (hz : z ≤ 129) : ∀ (m k : Nat) (L : List Nd), k ≤ 130 → 130 - k < m → L.length + (130 - k) ≤ 1000 → ∃ L', p5_l1 n z m k L = some L' ∧ L'.length ≤ L.length + (130 - k)
  | 0, k, L, _, h, _ => absurd h (by omega)
  | m + 1, k, L, hk, hm, hL => by
    unfold p5_l1
    by_cases hlt : (k : Int) < z
    · have hk8 : 0 ≤ (k : Int) ∧ (k : Int) ≤ 255 := by omega
      rw [if_pos (decide_eq_true hlt), w8 hk8, quo8 hk8 (by decide), Option.bind_some, rem8 (by omega) (by decide), Option.bind_some, quo8 hk8 (by decide), Option.bind_some, rem8 (by omega) (by decide), Option.bind_some, rem8 hk8 (by decide), Option.bind_some, appI_ok (by rw [List.length_singleton]; omega), Option.bind_some, ckS (by omega) (by omega), Option.bind_some, castS]
      obtain ⟨L', h1, h2⟩ := p5_l1_eq hz m (k + 1) (L ++ [(⟨[7, IntKind.wrap .u8 (1 + (k : Int) / 49 % 7), IntKind.wrap .u8 (1 + (k : Int) / 7 % 7), IntKind.wrap .u8 (1 + (k : Int) % 7)], some 4⟩, false, false, false, 0)]) (by omega) (by omega) (by rw [List.length_append, List.length_singleton]; omega)
      exact ⟨L', h1, by rw [List.length_append, List.length_singleton] at h2; omega⟩
    · rw [if_neg (by rw [decide_eq_true_eq]; exact hlt)]
      exact ⟨L, rfl, by omega⟩
theorem rem_any (a : Int) : ∃ z, remI .i64 a 130 = some z ∧ z ≤ 129 := by
  have h1 : Int.tmod a 130 < 130 := Int.tmod_lt_of_pos a (by decide)
  have h2 : -130 < Int.tmod a 130 := by
    rcases Int.le_total 0 a with h | h
    · rw [Int.tmod_eq_emod_of_nonneg h]; omega
    · have : Int.tmod a 130 = -(Int.tmod (-a) 130) := by rw [Int.neg_tmod, Int.neg_neg]
      rw [this, Int.tmod_eq_emod_of_nonneg (by omega)]; omega
  refine ⟨Int.tmod a 130, ?_, by omega⟩
  unfold remI
  rw [if_neg (by decide), ckI_ok (inR_i64.2 ⟨by omega, by omega⟩)]
theorem bad15 {n : Nat} {s : Sl Nd} {e : Int} (h : p19 n s = some e) (he : e ≠ 0) (p : Sl Int) (b : Bool) : p15 n s p b = some (⟨[], some 0⟩, ⟨[], some 0⟩, e) := by
  unfold p15; rw [h, Option.bind_some, if_pos (by simpa using he)]
theorem bad16 {n : Nat} {s : Sl Nd} {e : Int} (h : p19 n s = some e) (he : e ≠ 0) (p : Sl Int) : p16 n s p = some (⟨[], some 0⟩, e) := by
  unfold p16; rw [h, Option.bind_some, if_pos (by simpa using he)]
theorem bad17 {n : Nat} {s : Sl Nd} {e : Int} (h : p19 n s = some e) (he : e ≠ 0) (p : Sl Int) (b : Bool) : p17 n s p b = some (⟨[], some 0⟩, ⟨[], some 0⟩, e) := by
  unfold p17; rw [h, Option.bind_some, if_pos (by simpa using he)]
theorem bad18 {n : Nat} {s : Sl Nd} {e : Int} (h : p19 n s = some e) (he : e ≠ 0) (p : Sl Int) : p18 n s p = some (⟨[], some 0⟩, ⟨[], some 0⟩, e) := by
  unfold p18; rw [h, Option.bind_some, if_pos (by simpa using he)]
theorem bad12 {n : Nat} {s : Sl Nd} {e : Int} (h : p19 n s = some e) (he : e ≠ 0) (a : Int) : p12 n s a = some (⟨[], some 0⟩, ⟨[], some 0⟩, e) := by
  unfold p12; rw [h, Option.bind_some, if_pos (by simpa using he)]
theorem p15_errs {n : Nat} (hn : 300 ≤ n) {l : List Nd} {c : Option Nat} (h : V l) {p : Sl Int} (hp : p.xs.length ≤ 200) (wk : Bool) : ∃ (A : Sl Nd) (O : Sl (Sl Int × Bool)) (e : Int), p15 n ⟨l, c⟩ p wk = some (A, O, e) ∧ (¬ okP p.xs → e = 1) ∧ (okP p.xs → (∃ x ∈ l, pa x = p.xs) → e = 8) ∧ (okP p.xs → (∀ x ∈ l, pa x ≠ p.xs) → e ≠ 8 ∧ e ≠ 1) := by
  by_cases hf : Fits l p.xs
  · exact ⟨_, _, _, p15_ok hn h hf wk, fun e => absurd hf.ok e, fun _ ⟨x, hx, e⟩ => absurd e (hf.new x hx), fun _ _ => ⟨by decide, by decide⟩⟩
  have hl := h.len
  unfold p15
  rw [p19_ok hn h, Option.bind_some, if_neg (by decide), len_def]
  by_cases hok : okP p.xs
  · have hpl := hok.1
    rw [show ((p.xs.length : Int) == 0) = false from beq_eq_false_iff_ne.2 (by omega), if_pos rfl, p13_eq hn, if_pos hok, Option.bind_some, Option.bind_some, if_neg (by decide)]
    obtain ⟨q, hq⟩ := p29_eq n p (by omega) (by omega)
    rw [hq, Option.bind_some]
    rcases p30_eq hn (l := l) (c := c) (p := p) (by omega) hp with ⟨h1, h2⟩ | ⟨j, hj, h1, h2⟩
    · rw [h1, Option.bind_some, if_neg (by decide)]
      have h2' : ¬ ∃ x ∈ l, pa x = p.xs := fun ⟨x, hx, e⟩ => h2 x hx e
      by_cases hu : 1 < p.xs.length → ∃ x ∈ l, pa x = p.xs.dropLast
      · have eup : (if decide ((p.xs.length : Int) > 1) = true then (p30 n ⟨l, c⟩ (⟨p.xs.dropLast, some p.xs.dropLast.length⟩ : Sl Int)).bind fun t_28 => some (decide (t_28 < 0)) else some false) = some false := by
          by_cases h1 : 1 < p.xs.length
          · obtain ⟨x, hx, e⟩ := hu h1
            rw [if_pos (by rw [decide_eq_true_eq]; omega)]
            rcases p30_eq hn (l := l) (c := c) (p := ⟨p.xs.dropLast, some p.xs.dropLast.length⟩) (by omega) (by show p.xs.dropLast.length ≤ 200; rw [List.length_dropLast]; omega) with ⟨_, h2⟩ | ⟨j, hj, h2, _⟩
            · exact absurd e (h2 x hx)
            · rw [h2, Option.bind_some, decide_eq_false (by omega)]
          · rw [if_neg (by rw [decide_eq_true_eq]; omega)]
        rw [show (⟨p.xs.dropLast, some p.xs.dropLast.length⟩, q).1 = (⟨p.xs.dropLast, some p.xs.dropLast.length⟩ : Sl Int) from rfl, eup, Option.bind_some, if_neg (by decide), lenI_mk]
        have : l.length = 127 := by
          by_cases e : l.length < 127
          · exact absurd ⟨hok, h2, hu, e⟩ hf
          · omega
        rw [this, if_pos (by decide)]
        exact ⟨_, _, 9, rfl, fun e => absurd hok e, fun _ e => absurd e h2', fun _ _ => ⟨by decide, by decide⟩⟩
      · obtain ⟨hu1, hu2⟩ : 1 < p.xs.length ∧ ¬ ∃ x ∈ l, pa x = p.xs.dropLast := by
          by_cases e : 1 < p.xs.length
          · exact ⟨e, fun q => hu fun _ => q⟩
          · exact absurd (fun q => absurd q e) hu
        have eup : (if decide ((p.xs.length : Int) > 1) = true then (p30 n ⟨l, c⟩ (⟨p.xs.dropLast, some p.xs.dropLast.length⟩ : Sl Int)).bind fun t_28 => some (decide (t_28 < 0)) else some false) = some true := by
          rw [if_pos (by rw [decide_eq_true_eq]; omega)]
          rcases p30_eq hn (l := l) (c := c) (p := ⟨p.xs.dropLast, some p.xs.dropLast.length⟩) (by omega) (by show p.xs.dropLast.length ≤ 200; rw [List.length_dropLast]; omega) with ⟨h3, _⟩ | ⟨j, hj, _, h3⟩
          · rw [h3]; rfl
          · exact absurd ⟨_, List.getElem_mem hj, h3⟩ hu2
        rw [show (⟨p.xs.dropLast, some p.xs.dropLast.length⟩, q).1 = (⟨p.xs.dropLast, some p.xs.dropLast.length⟩ : Sl Int) from rfl, eup, Option.bind_some, if_pos rfl]
        exact ⟨_, _, 7, rfl, fun e => absurd hok e, fun _ e => absurd e h2', fun _ _ => ⟨by decide, by decide⟩⟩
    · rw [h1, Option.bind_some, if_pos (by rw [decide_eq_true_eq]; omega)]
      exact ⟨_, _, 8, rfl, fun e => absurd hok e, fun _ _ => rfl, fun _ e => absurd h2 (e _ (List.getElem_mem hj))⟩
  · have eq : (if ((p.xs.length : Int) == 0) = false then (p13 n p).bind fun t_8 => some (t_8 != 0) else some true) = some true := by
      cases ((p.xs.length : Int) == 0)
      · rw [if_pos rfl, p13_eq hn, if_neg hok]; rfl
      · rfl
    rw [eq, Option.bind_some, if_pos rfl]
    exact ⟨_, _, 1, rfl, fun _ => rfl, fun e => absurd e hok, fun e => absurd e hok⟩
theorem p5_law {x : Sl Nd} {y : Sl Int} {z : List Int} (F : Fine (.sl (.st (.pair (.sl (.int .u8)) (.pair .bool (.pair .bool (.pair .bool (.int .i64))))))) x) (F1 : Fine (.sl (.int .u8)) y) (F2 : Fine (.arr 2 (.int .i64)) z) : p5 6000 x y z = some true := by
  obtain ⟨a, b, rfl⟩ : ∃ a b, z = [a, b] := by
    have := F2.1
    match z, this with
    | [a, b], _ => exact ⟨a, b, rfl⟩
  have hb := inR_i64.1 (F2.2 b (by simp))
  unfold p5
  rw [len_def, len_def, orS, Option.bind_some]
  cases hg : (decide ((x.xs.length : Int) > 12) || decide ((y.xs.length : Int) > 12)) with
  | true => rw [if_pos rfl, lives5]; rfl
  | false =>
    obtain ⟨hg1, hg2⟩ := Bool.or_eq_false_iff.1 hg
    have hg1 := of_decide_eq_false hg1
    have hg2 := of_decide_eq_false hg2
    have hyl : y.xs.length ≤ 200 := by omega
    obtain ⟨r, hr, hr2⟩ := rem_any a
    obtain ⟨L, h1, h2⟩ := p5_l1_eq (n := 6000) hr2 6000 0 x.xs (by decide) (by decide) (by omega)
    rw [if_neg (by decide), appI_ok (by rw [List.length_nil]; omega), Option.bind_some, List.nil_append, show idx [a, b] 0 = some a from rfl, Option.bind_some, hr, Option.bind_some, show p5_l1 6000 r 6000 0 x.xs = _ from h1, Option.bind_some]
    rw [show idx [a, b] 1 = some b from rfl]
    by_cases hL : 127 < L.length
    · obtain ⟨b', h3, _⟩ := p5_l2_any (n := 6000) (by decide) (l := L) (c := .none) (by omega) 6000 0 0 (Nat.zero_le _) (by omega)
      have h19 := p19_long (n := 6000) (c := .none) hL
      rw [show p5_l2 6000 6000 0 0 (⟨L, .none⟩ : Sl Nd) = _ from h3, Option.bind_some]
      dsimp only
      rw [lenI_mk, if_pos (by rw [decide_eq_true_eq]; omega), Option.bind_some, bad15 h19 (by decide), Option.bind_some, bad16 h19 (by decide), Option.bind_some, bad17 h19 (by decide), Option.bind_some, bad18 h19 (by decide), Option.bind_some, Option.bind_some, bad12 h19 (by decide), Option.bind_some, h19, Option.bind_some, lives5]
      rfl
    · rcases p5_l2_eq (n := 6000) (by decide) (l := L) (c := .none) (by omega) 6000 0 (Nat.zero_le _) (by omega) V.nil with ⟨hV, h3⟩ | ⟨h19, h3⟩
      · rw [show p5_l2 6000 6000 0 0 (⟨L, .none⟩ : Sl Nd) = _ from h3, Option.bind_some]
        dsimp only
        rw [lenI_mk, if_neg (by rw [decide_eq_true_eq]; omega), Option.bind_some]
        obtain ⟨A, O, e, h15, q1, q2, q3⟩ := p15_errs (n := 6000) (by decide) (c := .none) hV hyl true
        have h12 := p12_eq (n := 6000) (by decide) (c := .none) hV (after := b) hb.2
        rw [h15, Option.bind_some]
        by_cases hok : okP y.xs
        · have hlen := hok.1.1
          have e580 : (if ((y.xs.length : Int) == 0) = false then (p13 6000 y).bind fun t_581 => some (t_581 != 0) else some true) = some false := by
            rw [p13_eq (by decide), if_pos hok, if_pos (beq_eq_false_iff_ne.2 (by omega))]; rfl
          rcases p10_eq (n := 6000) (by decide) (l := L) (c := .none) (by omega) hyl with ⟨e10, n10⟩ | ⟨j, hj, e10, n10⟩
          · obtain ⟨n8, n1⟩ := q3 hok n10
            rcases p16_eq (n := 6000) (by decide) (c := .none) hV hyl with ⟨_, e16⟩ | ⟨⟨w, hw, hwp⟩, _⟩
            · rcases p17_eq (n := 6000) (by decide) (c := .none) hV hyl true with ⟨_, e17⟩ | ⟨⟨w, hw, hwp⟩, _⟩
              · rcases p18_eq (n := 6000) (by decide) (c := .none) hV hyl with ⟨_, e18⟩ | ⟨w, hw, hwp, _⟩
                · rw [e16, Option.bind_some, e17, Option.bind_some, e18, Option.bind_some, Option.bind_some, h12, Option.bind_some, p19_ok (by decide) hV, Option.bind_some, e10, e580, lives5]
                  dsimp only
                  rw [show (e == 8) = false from beq_eq_false_iff_ne.2 n8, show (e == 1) = false from beq_eq_false_iff_ne.2 n1]
                  by_cases hb1 : b < 1
                  · rw [if_pos hb1]; simp only [Option.bind_some]; rw [decide_eq_true hb1]; rfl
                  · rw [if_neg hb1]; simp only [Option.bind_some]; rw [decide_eq_false hb1]; rfl
                · exact absurd hwp (n10 w hw)
              · exact absurd hwp (n10 w hw)
            · exact absurd hwp (n10 w hw)
          · have hex : ∃ w ∈ L, pa w = y.xs := ⟨_, List.getElem_mem hj, n10⟩
            have he := q2 hok hex
            subst he
            rcases p16_eq (n := 6000) (by decide) (c := .none) hV hyl with ⟨e16, _⟩ | ⟨_, e16⟩
            · exact absurd n10 (e16 _ (List.getElem_mem hj))
            rcases p17_eq (n := 6000) (by decide) (c := .none) hV hyl true with ⟨e17, _⟩ | ⟨_, e17⟩
            · exact absurd n10 (e17 _ (List.getElem_mem hj))
            rcases p18_eq (n := 6000) (by decide) (c := .none) hV hyl with ⟨e18, _⟩ | ⟨w, hw, hwp, e18⟩
            · exact absurd n10 (e18 _ (List.getElem_mem hj))
            rw [if_pos rfl] at e17
            rw [e16, Option.bind_some, e17, Option.bind_some, e18, Option.bind_some, Option.bind_some, h12, Option.bind_some, p19_ok (by decide) hV, Option.bind_some, e10, e580, lives5]
            rw [Option.bind_some, Option.bind_some, show decide ((j : Int) ≥ 0) = true from decide_eq_true (by omega)]
            cases (asl w && w.2.2.1)
            · by_cases hb1 : b < 1
              · rw [if_pos hb1]; simp only [Option.bind_some]; rw [decide_eq_true hb1]; rfl
              · rw [if_neg hb1]; simp only [Option.bind_some]; rw [decide_eq_false hb1]; rfl
            · by_cases hb1 : b < 1
              · rw [if_pos hb1]; simp only [Option.bind_some]; rw [decide_eq_true hb1]; rfl
              · rw [if_neg hb1]; simp only [Option.bind_some]; rw [decide_eq_false hb1]; rfl
        · have hno : ∀ w ∈ L, pa w ≠ y.xs := fun w hw q => hok (by rw [← q]; exact (hV.ok w hw).1)
          have he := q1 hok
          subst he
          have e580 : (if ((y.xs.length : Int) == 0) = false then (p13 6000 y).bind fun t_581 => some (t_581 != 0) else some true) = some true := by
            rw [p13_eq (by decide), if_neg hok]
            cases ((y.xs.length : Int) == 0) <;> rfl
          obtain ⟨t, h10⟩ : ∃ t, p10 6000 (⟨L, .none⟩ : Sl Nd) y = some t := by
            rcases p10_eq (n := 6000) (by decide) (l := L) (c := .none) (by omega) hyl with ⟨e10, _⟩ | ⟨j, _, e10, _⟩
            · exact ⟨_, e10⟩
            · exact ⟨_, e10⟩
          rcases p16_eq (n := 6000) (by decide) (c := .none) hV hyl with ⟨_, e16⟩ | ⟨⟨w, hw, hwp⟩, _⟩
          · rcases p17_eq (n := 6000) (by decide) (c := .none) hV hyl true with ⟨_, e17⟩ | ⟨⟨w, hw, hwp⟩, _⟩
            · rcases p18_eq (n := 6000) (by decide) (c := .none) hV hyl with ⟨_, e18⟩ | ⟨w, hw, hwp, _⟩
              · rw [e16, Option.bind_some, e17, Option.bind_some, e18, Option.bind_some, Option.bind_some, h12, Option.bind_some, p19_ok (by decide) hV, Option.bind_some, h10, e580, lives5]
                rfl
              · exact absurd hwp (hno w hw)
            · exact absurd hwp (hno w hw)
          · exact absurd hwp (hno w hw)
      · rw [show p5_l2 6000 6000 0 0 (⟨L, .none⟩ : Sl Nd) = _ from h3, Option.bind_some]
        dsimp only
        rw [lenI_mk, if_neg (by rw [decide_eq_true_eq]; omega), Option.bind_some, bad15 h19 (by decide), Option.bind_some, bad16 h19 (by decide), Option.bind_some, bad17 h19 (by decide), Option.bind_some, bad18 h19 (by decide), Option.bind_some, Option.bind_some, bad12 h19 (by decide), Option.bind_some, h19, Option.bind_some, lives5]
        rfl
end Go.Proofs.Ytflieonbbggmhaa
