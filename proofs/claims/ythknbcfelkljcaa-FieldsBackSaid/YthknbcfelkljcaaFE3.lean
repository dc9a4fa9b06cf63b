/- Fields in plain words: values in the order of elements. Plain theorems, no condition. -/
import Derived.Test.YthknbcfelkljcaaFE2
set_option linter.unusedVariables false
set_option linter.unusedSimpArgs false
namespace Go.Proofs.Ythknbcfelkljcaa
open Go.RowKit
def flE (B : Nat → List V4) (C j : Nat) : List V4 := (List.range' j (C - j)).flatMap B
theorem flE_cons (B : Nat → List V4) {C j : Nat} (h : j < C) : flE B C j = B j ++ flE B C (j + 1) := by
  unfold flE
  obtain ⟨q, hq⟩ : ∃ q, C - j = q + 1 := ⟨C - j - 1, by omega⟩
  rw [hq, show C - (j + 1) = q by omega, List.range'_succ, List.flatMap_cons]
theorem flE_nil (B : Nat → List V4) {C j : Nat} (h : C ≤ j) : flE B C j = [] := by
  unfold flE
  rw [show C - j = 0 by omega]; rfl
def One (i : Nat) (B : Nat → List V4) : Prop := ∀ j : Nat, B j = [] ∨ ∃ u V, B j = [((i : Int), (j : Int), u, V)]
theorem One.mem {i : Nat} {B : Nat → List V4} (h : One i B) {C j : Nat} {e : V4} (he : e ∈ flE B C j) : ∃ t : Nat, j ≤ t ∧ e.2.1 = (t : Int) := by
  unfold flE at he
  obtain ⟨t, h1, h2⟩ := List.mem_flatMap.1 he
  refine ⟨t, (List.mem_range'_1.1 h1).1, ?_⟩
  rcases h t with h | ⟨u, V, h⟩
  · rw [h] at h2; cases h2
  · rw [h, List.mem_singleton] at h2; rw [h2]
theorem headT {L : List V4} {q i j C : Nat} {B : Nat → List V4} (hB : One i B) {R : List V4} (hR : ∀ e ∈ R, e.1 ≠ (i : Int)) (hj : j < C) (hd : L.drop q = flE B C j ++ R) (hq : q ≤ L.length) {β : Type} (G : Bool → Option β) :
    ((if (decide ((q : Int) < ((L.length : Nat) : Int))) = true then (idx L (q : Int)).bind fun y => some (y.1 == (i : Int)) else some false).bind fun a => (if a = true then (idx L (q : Int)).bind fun y => some (y.2.1 == (j : Int)) else some false).bind G) = G (decide (B j ≠ [])) := by
  rw [flE_cons B hj] at hd
  by_cases hlt : q < L.length
  · rw [a_Q hlt] at hd
    rw [c_s (by omega), c_H hlt, Option.bind_some, Option.bind_some, Option.bind_some]
    rcases hB j with h | ⟨u, V, h⟩
    · rw [h, List.nil_append] at hd
      rw [decide_eq_false (fun q => q h)]
      have hmem : L[q] ∈ flE B C (j + 1) ++ R := by rw [← hd]; exact List.mem_cons_self
      by_cases hi : L[q].1 = (i : Int)
      · have hj2 : ¬ L[q].2.1 = (j : Int) := by
          rcases List.mem_append.1 hmem with h1 | h1
          · obtain ⟨t, t1, t2⟩ := hB.mem h1
            rw [t2]; omega
          · exact absurd hi (hR _ h1)
        have e2 : (L[q].2.1 == (j : Int)) = false := beq_eq_false_iff_ne.2 hj2
        rw [e2]
        split <;> rfl
      · have e1 : (L[q].1 == (i : Int)) = false := beq_eq_false_iff_ne.2 hi
        rw [e1, if_neg (by decide)]; rfl
    · rw [h] at hd
      have he : L[q] = ((i : Int), (j : Int), u, V) := (List.cons.inj hd).1
      rw [he, decide_eq_true (by rw [h]; simp)]
      simp only
      rw [beq_self_eq_true, if_pos rfl, beq_self_eq_true]; rfl
  · rw [c_E (by omega), Option.bind_some, if_neg (by decide)]
    rw [List.drop_eq_nil_of_le (by omega)] at hd
    have h : B j = [] := (List.append_eq_nil_iff.1 (List.append_eq_nil_iff.1 hd.symm).1).1
    rw [decide_eq_false (fun q => q h)]; rfl
theorem stepT {L : List V4} {q i j C : Nat} {B : Nat → List V4} (hB : One i B) {R : List V4} (hj : j < C) (hd : L.drop q = flE B C j ++ R) (hq : q ≤ L.length) (h : B j ≠ []) : ∃ e, B j = [e] ∧ idx L (q : Int) = some e ∧ q + 1 ≤ L.length ∧ L.drop (q + 1) = flE B C (j + 1) ++ R := by
  rw [flE_cons B hj] at hd
  rcases hB j with h0 | ⟨u, V, h0⟩
  · exact absurd h0 h
  · rw [h0] at hd
    have hlt : q < L.length := by
      rcases Nat.lt_or_ge q L.length with h1 | h1
      · exact h1
      · rw [List.drop_eq_nil_of_le h1] at hd; cases hd
    rw [a_Q hlt] at hd
    exact ⟨_, h0, (c_H hlt).trans (congrArg some (List.cons.inj hd).1), by omega, (List.cons.inj hd).2⟩
theorem noT {L : List V4} {q j C : Nat} {B : Nat → List V4} {R : List V4} (hj : j < C) (hd : L.drop q = flE B C j ++ R) (h : B j = []) : L.drop q = flE B C (j + 1) ++ R := by
  rw [flE_cons B hj, h, List.nil_append] at hd
  exact hd
theorem p5_l4_eq {n : Nat} (m : Mpt) (t67 t410 : Sl V4 × Int) (l : List V4) (i : Nat) (f : Fd) (hf : idx m.1.xs (i : Int) = some f) (hC : 1 ≤ fC f ∧ fC f ≤ 256) (hb1 : t67.1.xs.length ≤ 100000) (hb2 : l.length ≤ 100000) (hb3 : t410.1.xs.length ≤ 100000)
    {B W G : Nat → List V4} (hB : One i B) (hW : One i W) (hG : ∀ j : Nat, j < (fC f).toNat → G j = if W j ≠ [] then W j else B j)
    {RB RW RG : List V4} (hRB : ∀ e ∈ RB, e.1 ≠ (i : Int)) (hRW : ∀ e ∈ RW, e.1 ≠ (i : Int)) : ∀ (fuel j r q p : Nat), (fC f).toNat - j < fuel → j ≤ (fC f).toNat → q ≤ t67.1.xs.length → p ≤ l.length → r ≤ t410.1.xs.length →
      t67.1.xs.drop q = flE B (fC f).toNat j ++ RB → l.drop p = flE W (fC f).toNat j ++ RW → t410.1.xs.drop r = flE G (fC f).toNat j ++ RG →
      ∃ r' q' p' : Nat, p5_l4 n m t67 l t410 (i : Int) fuel (j : Int) (r : Int) (q : Int) (p : Int) = some (.inl ((p' : Int), (q' : Int), (r' : Int))) ∧ q' ≤ t67.1.xs.length ∧ p' ≤ l.length ∧ r' ≤ t410.1.xs.length ∧ t67.1.xs.drop q' = RB ∧ l.drop p' = RW ∧ t410.1.xs.drop r' = RG := by
  intro fuel
  induction fuel with
  | zero => intro j r q p h; exact absurd h (by omega)
  | succ fuel ih =>
    intro j r q p h1 h2 hq hp hr d1 d2 d3
    rw [p5_l4, hf, Option.bind_some]
    by_cases hlt : j < (fC f).toNat
    · rw [c_s (show (j : Int) < f.2.2.2.2.2.2.2.1 from (show (j : Int) < fC f by omega)), a_O, headT hB hRB hlt d1 hq]
      have s1 : ∃ (c : Bool) (q' : Nat) (x : V4), (if (decide (B j ≠ [])) = true then ((idx t67.1.xs (q : Int)).bind fun y_505 => (ckI .i64 ((q : Int) + 1)).bind fun x_513 => some (true, x_513, y_505)) else some (false, (q : Int), ((0 : Int), (0 : Int), (0 : Int), (0 : Int)))) = some (c, (q' : Int), x) ∧ q' ≤ t67.1.xs.length ∧ t67.1.xs.drop q' = flE B (fC f).toNat (j + 1) ++ RB ∧ (B j = if c = true then [x] else []) := by
        by_cases hb : B j ≠ []
        · obtain ⟨e, e1, e2, e3, e4⟩ := stepT hB hlt d1 hq hb
          rw [c_s hb, e2, Option.bind_some, ckS (by omega) (by omega), Option.bind_some, a_3]
          exact ⟨true, q + 1, e, rfl, e3, e4, e1⟩
        · have hb' : B j = [] := Classical.byContradiction hb
          rw [c_E hb]
          exact ⟨false, q, _, rfl, hq, noT hlt d1 hb', hb'⟩
      obtain ⟨c1, q', x1, s1, q1, q2, q3⟩ := s1
      have a1 : ∀ {α β γ : Type} (o : Option α) (k : α → Option β) (g : β → Option γ), (o.bind fun z => (k z).bind g) = (o.bind k).bind g := fun o k g => (Option.bind_assoc o k g).symm
      rw [s1, Option.bind_some, b_g]
      simp only
      rw [headT hW hRW hlt d2 hp]
      have s2 : ∃ (c : Bool) (p' : Nat) (x : V4), (if (decide (W j ≠ [])) = true then ((idx l (p : Int)).bind fun y_541 => (ckI .i64 ((p : Int) + 1)).bind fun x_549 => some (true, x_549, y_541)) else some (c1, (p : Int), x1)) = some (c, (p' : Int), x) ∧ p' ≤ l.length ∧ l.drop p' = flE W (fC f).toNat (j + 1) ++ RW ∧ (G j = if c = true then [x] else []) := by
        by_cases hb : W j ≠ []
        · obtain ⟨e, e1, e2, e3, e4⟩ := stepT hW hlt d2 hp hb
          rw [c_s hb, e2, Option.bind_some, ckS (by omega) (by omega), Option.bind_some, a_3]
          exact ⟨true, p + 1, e, rfl, e3, e4, by rw [hG j hlt, if_pos hb]; exact e1⟩
        · have hb' : W j = [] := Classical.byContradiction hb
          rw [c_E hb]
          exact ⟨c1, p, x1, rfl, hp, noT hlt d2 hb', by rw [hG j hlt, if_neg hb]; exact q3⟩
      obtain ⟨c2, p', x2, s2, p1, p2, p3⟩ := s2
      rw [s2, Option.bind_some, a_O]
      simp only
      rw [flE_cons G hlt, p3] at d3
      cases c2 with
      | true =>
        rw [if_pos rfl, List.singleton_append] at d3
        have hrl : r < t410.1.xs.length := by
          rcases Nat.lt_or_ge r t410.1.xs.length with h | h
          · exact h
          · rw [List.drop_eq_nil_of_le h] at d3; cases d3
        rw [a_Q hrl] at d3
        have he : t410.1.xs[r] = x2 := (List.cons.inj d3).1
        have e : eqP gf3 x2 x2 = true := (eqP_iff (t := gf3) rfl _ _).2 rfl
        obtain ⟨r', q'', p'', f1, f2⟩ := ih (j + 1) (r + 1) q' p' (by omega) (by omega) q1 p1 (by omega) q2 p2 (List.cons.inj d3).2
        rw [if_pos rfl, decide_eq_false (by omega), if_pos rfl, c_H hrl, he, Option.bind_some, e, Option.bind_some, if_neg (by decide), ckS (by omega) (by omega), Option.bind_some, Option.bind_some, lrKl, ckS (by omega) (by omega), Option.bind_some, a_3, a_3]
        exact ⟨r', q'', p'', f1, f2⟩
      | false =>
        rw [if_neg (by decide), List.nil_append] at d3
        obtain ⟨r', q'', p'', f1, f2⟩ := ih (j + 1) r q' p' (by omega) (by omega) q1 p1 hr q2 p2 d3
        rw [if_neg (by decide), Option.bind_some, lrKl, ckS (by omega) (by omega), Option.bind_some, a_3]
        exact ⟨r', q'', p'', f1, f2⟩
    · rw [c_E (show ¬ (j : Int) < f.2.2.2.2.2.2.2.1 from (show ¬ (j : Int) < fC f by omega))]
      rw [flE_nil _ (by omega), List.nil_append] at d1 d2 d3
      exact ⟨r, q, p, rfl, hq, hp, hr, d1, d2, d3⟩
def eB (m : Mpt) (b : List Int) (k r : Int) (i : Nat) (f : Fd) (j : Nat) : List V4 := if mt k r f = true then elV m b i f j else []
theorem eB_one (m : Mpt) (b : List Int) (k r : Int) (i : Nat) (f : Fd) : One i (eB m b k r i f) := by
  intro j
  unfold eB elV
  split
  · split
    · exact .inr ⟨_, _, rfl⟩
    · exact .inl rfl
  · exact .inl rfl
theorem eLW_one (W : Nat → Nat → Option Int) (i : Nat) (f : Fd) : One i (eLW W i f) := by
  intro j
  unfold eLW
  split
  · split
    · exact .inr ⟨_, _, rfl⟩
    · exact .inl rfl
  · exact .inl rfl
theorem rpV_cons (m : Mpt) (b : List Int) (k r : Int) (i : Nat) (f : Fd) (l : List Fd) : rpV m b k r i (f :: l) = flE (eB m b k r i f) (fC f).toNat 0 ++ rpV m b k r (i + 1) l := by
  rw [rpV]
  refine congrArg (· ++ _) ?_
  unfold flE eB
  by_cases h : mt k r f = true
  · rw [if_pos h]
    unfold fdV
    refine congrArg (fun g => List.flatMap g _) (funext fun j => ?_)
    rw [if_pos h]
  · rw [if_neg h]
    symm
    rw [List.flatMap_eq_nil_iff]
    intro t _
    rw [if_neg h]
theorem rpW_cons (W : Nat → Nat → Option Int) (i : Nat) (f : Fd) (l : List Fd) : rpW W i (f :: l) = flE (eLW W i f) (fC f).toNat 0 ++ rpW W (i + 1) l := rfl
theorem One.mem1 {i : Nat} {B : Nat → List V4} (h : One i B) {C j : Nat} {e : V4} (he : e ∈ flE B C j) : e.1 = (i : Int) := by
  unfold flE at he
  obtain ⟨t, h1, h2⟩ := List.mem_flatMap.1 he
  rcases h t with h | ⟨u, V, h⟩
  · rw [h] at h2; cases h2
  · rw [h, List.mem_singleton] at h2; rw [h2]
theorem rpV_ge (m : Mpt) (b : List Int) (k r : Int) : ∀ (l : List Fd) (i : Nat), ∀ e ∈ rpV m b k r i l, (i : Int) ≤ e.1
  | [], i, e, h => by cases h
  | f :: l, i, e, h => by
    rw [rpV_cons] at h
    rcases List.mem_append.1 h with h | h
    · rw [(eB_one m b k r i f).mem1 h]; omega
    · have := rpV_ge m b k r l (i + 1) e h; omega
theorem rpW_ge (W : Nat → Nat → Option Int) : ∀ (l : List Fd) (i : Nat), ∀ e ∈ rpW W i l, (i : Int) ≤ e.1
  | [], i, e, h => by cases h
  | f :: l, i, e, h => by
    rw [rpW_cons] at h
    rcases List.mem_append.1 h with h | h
    · rw [(eLW_one W i f).mem1 h]; omega
    · have := rpW_ge W l (i + 1) e h; omega
theorem p5_l3_eq {n : Nat} (hn : 1100 ≤ n) (m : Mpt) (hl : m.1.xs.length ≤ 1000) (hA : ∀ f ∈ m.1.xs, okA f) (k r : Int) (b0 b1 : List Int) (W : Nat → Nat → Option Int) (t67 t410 : Sl V4 × Int) (l : List V4) (hb1 : t67.1.xs.length ≤ 100000) (hb2 : l.length ≤ 100000) (hb3 : t410.1.xs.length ≤ 100000)
    (hG : ∀ (i j : Nat) (f : Fd), m.1.xs[i]? = some f → j < (fC f).toNat → eB m b1 k r i f j = if eLW W i f j ≠ [] then eLW W i f j else eB m b0 k r i f j) : ∀ (fuel i a q p : Nat), m.1.xs.length - i < fuel → i ≤ m.1.xs.length → q ≤ t67.1.xs.length → p ≤ l.length → a ≤ t410.1.xs.length →
      t67.1.xs.drop q = rpV m b0 k r i (m.1.xs.drop i) → l.drop p = rpW W i (m.1.xs.drop i) → t410.1.xs.drop a = rpV m b1 k r i (m.1.xs.drop i) →
      p5_l3 n m t67 l t410 fuel (i : Int) (a : Int) (q : Int) (p : Int) = some (.inl ((t410.1.xs.length : Nat) : Int)) := by
  intro fuel
  induction fuel with
  | zero => intro i a q p h; exact absurd h (by omega)
  | succ fuel ih =>
    intro i a q p h1 h2 hq hp ha d1 d2 d3
    rw [p5_l3, a_O]
    by_cases hlt : i < m.1.xs.length
    · have hf := List.getElem_mem hlt
      have hi := c_H hlt
      have hi2 : m.1.xs[i]? = some m.1.xs[i] := List.getElem?_eq_getElem hlt
      rw [a_Q hlt] at d1 d2 d3
      rw [c_s (by omega)]
      generalize m.1.xs[i] = f at hf hi hi2 d1 d2 d3
      rw [rpV_cons] at d1 d3
      rw [rpW_cons] at d2
      have hC := (hA f hf).2
      obtain ⟨a', q', p', e1, e2, e3, e4, e5, e6, e7⟩ := p5_l4_eq (n := n) m t67 t410 l i f hi hC hb1 hb2 hb3 (eB_one m b0 k r i f) (eLW_one W i f) (fun j hj => hG i j f hi2 hj)
        (fun e he => by have := rpV_ge m b0 k r _ (i + 1) e he; omega) (fun e he => by have := rpW_ge W _ (i + 1) e he; omega) n 0 a q p (by omega) (by omega) hq hp ha d1 d2 d3
      rw [show ((0 : Nat) : Int) = 0 from rfl] at e1
      rw [e1, Option.bind_some, lrKl, ckS (by omega) (by omega), Option.bind_some, a_3]
      exact ih (i + 1) a' q' p' (by omega) (by omega) e2 e3 e4 e5 e6 e7
    · rw [c_E (by omega)]
      rw [List.drop_eq_nil_of_le (show m.1.xs.length ≤ i by omega), rpV] at d3
      have : t410.1.xs.length ≤ a := List.drop_eq_nil_iff.1 d3
      rw [show a = t410.1.xs.length by omega]
end Go.Proofs.Ythknbcfelkljcaa
