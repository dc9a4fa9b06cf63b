/- DescriptorsDivide in plain words (begun). -/
import Derived.Test.YtojifdijcanbpaaXP1
import Derived.Test.YtojifdijcanbpaaR2
set_option linter.unusedVariables false
set_option linter.unusedSimpArgs false
namespace Go.Proofs.Ytojifdijcanbpaa
open Go.RowKit

/-- Bytes cut into descriptors: each begins with its length, of 2 at least. -/
def cutB : Nat → List Int → Option (List (List Int))
  | 0, _ => .none
  | _ + 1, [] => some []
  | m + 1, h :: t => if h < 2 ∨ h > (h :: t).length then .none else (cutB m ((h :: t).drop h.toNat)).map ((h :: t).take h.toNat :: ·)
theorem p36_eq (n : Nat) (l : List Int) (c : Option Nat) : p36 n ⟨l, c⟩ = some ⟨l, some l.length⟩ := by
  unfold p36 sl3I
  rw [if_pos (by simp [lenI])]
  simp [lenI]
def tight (l : List Int) : Sl Int := ⟨l, some l.length⟩
theorem p12_l1_eq (n : Nat) : ∀ (m : Nat) (acc : List (Sl Int)) (s : Sl Int), s.xs.length < m → acc.length + s.xs.length ≤ 100000 →
    p12_l1 n m acc s = some (match cutB m s.xs with | some ps => .inl (acc ++ ps.map tight) | .none => .inr (⟨[], some 0⟩, 4))
  | 0, _, _, h, _ => by omega
  | m + 1, acc, ⟨[], c⟩, h, hb => by simp [p12_l1, lenI, cutB]
  | m + 1, acc, ⟨x :: t, c⟩, h, hb => by
    unfold p12_l1
    rw [if_pos (by simp [lenI])]
    have i0 : idx (x :: t) 0 = some x := rfl
    rw [show (⟨x :: t, c⟩ : Sl Int).xs = x :: t from rfl, i0, Option.bind_some]
    simp only [orS, Option.bind_some]
    by_cases hx : x < 2 ∨ x > (x :: t).length
    · rw [if_pos (by simpa [lenI] using hx)]
      simp only [cutB, if_pos hx]
    · have hx' : 2 ≤ x ∧ x ≤ ((x :: t).length : Int) := by omega
      rw [if_neg (by simpa [lenI] using hx)]
      have s1 : slI (⟨x :: t, c⟩ : Sl Int) 0 x = some ⟨(x :: t).take x.toNat, c.map (· - 0)⟩ := by
        unfold slI
        rw [if_pos ⟨by omega, by omega, hx'.2⟩]
        rfl
      have s2 : slI (⟨x :: t, c⟩ : Sl Int) x (lenI (⟨x :: t, c⟩ : Sl Int)) = some ⟨(x :: t).drop x.toNat, c.map (· - x.toNat)⟩ := by
        unfold slI
        rw [if_pos ⟨by omega, hx'.2, by simp [lenI]⟩]
        simp [lenI]
      have hl : ((x :: t).take x.toNat).length ≤ (x :: t).length := by simp only [List.length_take]; omega
      have hb' : acc.length + (x :: t).length ≤ 100000 := hb
      rw [s1, Option.bind_some, appI_ok (by simp only [List.length_nil]; omega), Option.bind_some, p36_eq, Option.bind_some, appI_ok (by simp only [List.length_cons, List.length_nil] at *; omega), Option.bind_some, s2, Option.bind_some]
      have hd : ((x :: t).drop x.toNat).length + 2 ≤ (x :: t).length := by rw [List.length_drop]; omega
      have h' : (x :: t).length < m + 1 := h
      rw [p12_l1_eq n m _ _ (by show ((x :: t).drop x.toNat).length < m; omega) (by show (acc ++ [_]).length + ((x :: t).drop x.toNat).length ≤ 100000; rw [List.length_append, List.length_singleton]; omega)]
      simp only [cutB, if_neg hx]
      cases cutB m ((x :: t).drop x.toNat) with
      | none => rfl
      | some ps => simp [tight]
theorem p37_eq (n : Nat) (l : List (Sl Int)) (c : Option Nat) : p37 n ⟨l, c⟩ = some ⟨l, some l.length⟩ := by
  unfold p37 sl3I
  rw [if_pos (by simp [lenI])]
  simp [lenI]
/-- What Divide returns. -/
def divB (n : Nat) (l : List Int) : Sl (Sl Int) × Int := if l.length > 4096 then (⟨[], some 0⟩, 3) else match cutB n l with | some ps => (⟨ps.map tight, some ps.length⟩, 0) | .none => (⟨[], some 0⟩, 4)
theorem p12_eq (n : Nat) (s : Sl Int) (hn : 5000 < n) : p12 n s = some (divB n s.xs) := by
  unfold p12 divB
  by_cases hl : s.xs.length > 4096
  · rw [if_pos (by simp [lenI]; omega), if_pos hl]
  · rw [if_neg (by simp [lenI]; omega), if_neg hl, p12_l1_eq n n [] s (by omega) (by simp; omega), Option.bind_some]
    cases cutB n s.xs with
    | none => rfl
    | some ps =>
      simp only [lrK, List.nil_append, p37_eq, Option.bind_some, List.length_map]
theorem cutB_join : ∀ (m : Nat) (ps : List (List Int)), (∀ p ∈ ps, 2 ≤ p.length ∧ p[0]? = some (p.length : Int)) → ps.flatten.length < m → cutB m ps.flatten = some ps
  | 0, _, _, h => by omega
  | m + 1, [], _, _ => by simp [cutB]
  | m + 1, p :: ps, hp, h => by
    obtain ⟨h2, h0⟩ := hp p (by simp)
    cases p with
    | nil => simp at h2
    | cons x t =>
      have hx : x = ((x :: t).length : Int) := by simpa using h0
      have hxn : x.toNat = (x :: t).length := by omega
      have ih := cutB_join m ps (fun q hq => hp q (by simp [hq])) (by simp only [List.flatten_cons, List.length_append, List.length_cons] at h ⊢; omega)
      have e : ((x :: t) :: ps).flatten = x :: (t ++ ps.flatten) := by simp
      have e2 : x :: (t ++ ps.flatten) = (x :: t) ++ ps.flatten := rfl
      rw [e]
      unfold cutB
      rw [if_neg (by rw [e2, List.length_append]; omega), e2, hxn, List.drop_left, List.take_left, ih]
      rfl
theorem cutB_all : ∀ (m : Nat) (l : List Int) (ps : List (List Int)), cutB m l = some ps → ps.flatten = l ∧ ∀ p ∈ ps, 2 ≤ p.length ∧ p[0]? = some (p.length : Int)
  | 0, _, _, h => by simp [cutB] at h
  | m + 1, [], ps, h => by
    obtain rfl : [] = ps := by simpa [cutB] using h
    simp
  | m + 1, x :: t, ps, h => by
    unfold cutB at h
    by_cases hx : x < 2 ∨ x > (x :: t).length
    · rw [if_pos hx] at h; cases h
    · rw [if_neg hx] at h
      obtain ⟨qs, hq, rfl⟩ := Option.map_eq_some_iff.1 h
      obtain ⟨i1, i2⟩ := cutB_all m _ qs hq
      have hl : ((x :: t).take x.toNat).length = x.toNat := by rw [List.length_take]; omega
      refine ⟨by rw [List.flatten_cons, i1, List.take_append_drop], fun p hp => ?_⟩
      rcases List.mem_cons.1 hp with rfl | hp
      · refine ⟨by omega, ?_⟩
        rw [hl, List.getElem?_take, if_pos (by omega)]
        simp
        omega
      · exact i2 p hp
/-- The walk over all bytes: where it ends, and how many it passed. -/
def walkB : Nat → List Int → Nat → Nat → Nat × Nat
  | 0, _, k, j => (k, j)
  | m + 1, l, k, j => match l[k]? with
    | some x => if x > 1 ∧ (k : Int) + x ≤ l.length then walkB m l (k + x.toNat) (j + 1) else (k, j)
    | .none => (k, j)
theorem p3_l4_eq (n : Nat) (s : Sl Int) (hB : Byt s.xs) (hl : s.xs.length ≤ 1000) : ∀ (m k j : Nat), s.xs.length < k + m → k ≤ s.xs.length → j ≤ k → p3_l4 n s m (j : Int) (k : Int) = some (((walkB m s.xs k j).1 : Int), ((walkB m s.xs k j).2 : Int))
  | 0, k, j, h, hk, hj => by omega
  | m + 1, k, j, h, hk, hj => by
    unfold p3_l4 walkB
    by_cases hkl : k < s.xs.length
    · have hg := List.getElem?_eq_getElem hkl
      have hb := hB s.xs[k] (List.getElem_mem hkl)
      have c1 : decide ((k : Int) < lenI s) = true := by simp [lenI]; omega
      rw [idx_nat, hg]
      simp only [c1, if_true, Option.bind_some, ck_i64 (z := (k : Int) + s.xs[k]) (by omega), ck_i64 (z := (j : Int) + 1) (by omega), andS]
      by_cases hx : s.xs[k] > 1 ∧ (k : Int) + s.xs[k] ≤ s.xs.length
      · have c2 : (decide (s.xs[k] > 1) && decide ((k : Int) + s.xs[k] ≤ lenI s)) = true := by rw [Bool.and_eq_true, decide_eq_true_iff, decide_eq_true_iff]; exact hx
        rw [if_pos c2, if_pos hx]
        have ih := p3_l4_eq n s hB hl m (k + s.xs[k].toNat) (j + 1) (by omega) (by omega) (by omega)
        rw [← ih]
        congr 1
        omega
      · have c2 : ¬ (decide (s.xs[k] > 1) && decide ((k : Int) + s.xs[k] ≤ lenI s)) = true := by rw [Bool.and_eq_true, decide_eq_true_iff, decide_eq_true_iff]; exact hx
        rw [if_neg c2, if_neg hx]
    · have hg : s.xs[k]? = .none := List.getElem?_eq_none (by omega)
      have c1 : decide ((k : Int) < lenI s) = false := by simp [lenI]; omega
      rw [hg]
      simp [c1]
theorem walk_cut : ∀ (m : Nat) (l : List Int) (k j : Nat), l.length < k + m → k ≤ l.length →
    match cutB m (l.drop k) with | some ps => walkB m l k j = (l.length, j + ps.length) | .none => (walkB m l k j).1 < l.length
  | 0, l, k, j, h, hk => by omega
  | m + 1, l, k, j, h, hk => by
    by_cases hkl : k < l.length
    · have hg := List.getElem?_eq_getElem hkl
      have hd := List.drop_eq_getElem_cons hkl
      have hlen : (l[k] :: l.drop (k + 1)).length = l.length - k := by rw [← hd, List.length_drop]
      rw [hd]
      unfold cutB walkB
      rw [hg]
      by_cases hx : l[k] > 1 ∧ (k : Int) + l[k] ≤ l.length
      · rw [if_neg (by rw [hlen]; omega)]
        simp only [if_pos hx]
        have ih := walk_cut m l (k + l[k].toNat) (j + 1) (by omega) (by omega)
        rw [← hd, List.drop_drop]
        cases hc : cutB m (l.drop (k + l[k].toNat)) with
        | none => rw [hc] at ih; exact ih
        | some ps =>
          rw [hc] at ih
          simp only [Option.map_some, List.length_cons]
          rw [ih]
          congr 1
          omega
      · rw [if_pos (by rw [hlen]; omega)]
        simp only [if_neg hx]
        exact hkl
    · obtain rfl : k = l.length := by omega
      rw [List.drop_length]
      unfold walkB
      rw [List.getElem?_eq_none (Nat.le_refl _)]
      simp [cutB]
/-- The parts that are cut are compared with the parts that were joined: all are alike, and have no room behind. -/
theorem p3_l3_eq (n : Nat) (y : List Int × List (List Int)) (t : Sl (Sl Int) × Int) (ht : t.1.xs = y.2.map tight) (hl : y.2.length ≤ 1000) : ∀ (m k : Nat), y.2.length < k + m → k ≤ y.2.length → p3_l3 n y t m (k : Int) = some (.inl ())
  | 0, k, h, hk => by omega
  | m + 1, k, h, hk => by
    unfold p3_l3
    have hlen : t.1.xs.length = y.2.length := by rw [ht, List.length_map]
    by_cases hkl : k < y.2.length
    · have c1 : decide ((k : Int) < lenI t.1) = true := by simp [lenI, hlen]; omega
      have g1 : t.1.xs[k]? = some (tight y.2[k]) := by rw [ht, List.getElem?_map, List.getElem?_eq_getElem hkl]; rfl
      have g2 := List.getElem?_eq_getElem hkl
      rw [if_pos c1, idx_nat, idx_nat, g1, g2]
      have c3 : capO (tight y.2[k]) = some (y.2[k].length : Int) := rfl
      have c4 : ((y.2[k].length : Int) != lenI (tight y.2[k])) = false := by simp [lenI, tight]
      have c5 : (tight y.2[k]).xs = y.2[k] := rfl
      simp only [Option.bind_some, c5, decide_true, Bool.not_true, if_true, c3, c4, Bool.false_eq_true, if_false, ck_i64 (z := (k : Int) + 1) (by omega)]
      exact p3_l3_eq n y t ht hl m (k + 1) (by omega) (by omega)
    · have c1 : ¬ decide ((k : Int) < lenI t.1) = true := by simp [lenI, hlen]; omega
      rw [if_neg c1]
/-- The parts that are cut, joined. -/
theorem p3_l5_eq (n : Nat) (t : Sl (Sl Int) × Int) (ps : List (List Int)) (ht : t.1.xs = ps.map tight) (hp : ∀ p ∈ ps, 2 ≤ p.length ∧ p[0]? = some (p.length : Int)) (hl : ps.flatten.length ≤ 5000) (hl2 : ps.length ≤ 5000) : ∀ (m k : Nat), ps.length < k + m → k ≤ ps.length → p3_l5 n t m (k : Int) (ps.take k).flatten = some (.inl ps.flatten)
  | 0, k, h, hk => by omega
  | m + 1, k, h, hk => by
    unfold p3_l5
    have hlen : t.1.xs.length = ps.length := by rw [ht, List.length_map]
    by_cases hkl : k < ps.length
    · have c1 : decide ((k : Int) < lenI t.1) = true := by simp [lenI, hlen]; omega
      have g1 : t.1.xs[k]? = some (tight ps[k]) := by rw [ht, List.getElem?_map, List.getElem?_eq_getElem hkl]; rfl
      obtain ⟨q2, q0⟩ := hp ps[k] (List.getElem_mem hkl)
      have i0 : idx (tight ps[k]).xs 0 = some (ps[k].length : Int) := (idx_nat _ 0).trans q0
      have e1 : decide (lenI (tight ps[k]) < 2) = false := decide_eq_false (by show ¬ ((ps[k].length : Int) < 2); omega)
      have e2 : ((ps[k].length : Int) != lenI (tight ps[k])) = false := by simp [lenI, tight]
      have hs : (ps.take (k + 1)).flatten = (ps.take k).flatten ++ ps[k] := by rw [List.take_succ_eq_append_getElem hkl, List.flatten_append]; simp
      have hb : (ps.take (k + 1)).flatten.length ≤ ps.flatten.length := by
        conv => rhs; rw [← List.take_append_drop (k + 1) ps, List.flatten_append, List.length_append]
        omega
      rw [hs, List.length_append] at hb
      rw [if_pos c1, idx_nat, g1]
      simp only [Option.bind_some, e1, i0, e2, if_true, Bool.false_eq_true, if_false, ck_i64 (z := (k : Int) + 1) (by omega)]
      rw [catS_ok' (by show (ps.take k).flatten.length + ps[k].length ≤ _; omega), Option.bind_some]
      have ih := p3_l5_eq n t ps ht hp hl hl2 m (k + 1) (by omega) (by omega)
      rw [hs] at ih
      exact ih
    · have c1 : ¬ decide ((k : Int) < lenI t.1) = true := by simp [lenI, hlen]; omega
      rw [if_neg c1, List.take_of_length_le (by omega)]
theorem p3_l2_eq (n : Nat) (x0 : Sl (List Int)) (i : Nat) (e : List Int) (b : Int) (he : x0.xs[i]? = some e) (hb : e[1]? = some b) (L : Nat) (hL : L ≤ 1000) : ∀ (m k : Nat) (c : List Int), c.length = L → L < k + m → k ≤ L → (c.take k = List.replicate k b) → p3_l2 n x0 (i : Int) (L : Int) m (k : Int) c = some (List.replicate L b)
  | 0, k, c, _, h, hk, _ => by omega
  | m + 1, k, c, hc, h, hk, ht => by
    unfold p3_l2
    by_cases hkl : k < L
    · have hkc : k < c.length := by omega
      have j1 : idx e 1 = some b := (idx_nat e 1).trans hb
      rw [if_pos (by simp; omega), idx_nat, he, Option.bind_some, j1, Option.bind_some, idx_nat, List.getElem?_eq_getElem hkc, Option.bind_some, ck_i64 (by omega), Option.bind_some]
      refine p3_l2_eq n x0 i e b he hb L hL m (k + 1) (c.set (k : Int).toNat b) (by simp [hc]) (by omega) (by omega) ?_
      rw [Int.toNat_natCast, List.take_succ_eq_append_getElem (by simp [hc]; omega), List.take_set_of_le (Nat.le_refl _), ht, List.getElem_set_self, List.replicate_succ']
    · have : k = L := by omega
      subst this
      rw [List.take_of_length_le (by omega)] at ht
      rw [if_neg (by simp), ht]
/-- A descriptor that a pair of numbers tells. -/
def mkB (e : List Int) : List Int := (List.replicate (2 + e.headD 0 % 254).toNat (e.getD 1 0)).set 0 (2 + e.headD 0 % 254)
def PairOk (e : List Int) : Prop := ∃ a b, e = [a, b] ∧ (0 ≤ a ∧ a ≤ 255) ∧ (0 ≤ b ∧ b ≤ 255)
theorem mkB_ok {e : List Int} (h : PairOk e) : 2 ≤ (mkB e).length ∧ (mkB e).length ≤ 255 ∧ (mkB e)[0]? = some ((mkB e).length : Int) := by
  obtain ⟨a, b, rfl, ha, hb⟩ := h
  have hl : (mkB [a, b]).length = (2 + a % 254).toNat := by simp [mkB]
  refine ⟨by omega, by omega, ?_⟩
  rw [hl]
  unfold mkB
  rw [List.getElem?_set_self (by simp; omega)]
  simp
  omega
theorem p3_l1_eq (n : Nat) (x0 : Sl (List Int)) (hx : ∀ e ∈ x0.xs, PairOk e) (hl : x0.xs.length ≤ 40) (hn : 300 < n) : ∀ (m k : Nat) (acc : List (List Int)) (bs : List Int), x0.xs.length < k + m → k ≤ x0.xs.length → acc.length = k → bs.length ≤ 255 * k →
    p3_l1 n x0 m (k : Int) acc bs = some (bs ++ ((x0.xs.drop k).map mkB).flatten, acc ++ (x0.xs.drop k).map mkB)
  | 0, k, acc, bs, h, hk, _, _ => by omega
  | m + 1, k, acc, bs, h, hk, ha, hb => by
    unfold p3_l1
    by_cases hkl : k < x0.xs.length
    · have hg := List.getElem?_eq_getElem hkl
      obtain ⟨a, b, he, h1, h2⟩ := hx x0.xs[k] (List.getElem_mem hkl)
      have hm := mkB_ok (hx x0.xs[k] (List.getElem_mem hkl))
      have hM : (2 + a % 254).toNat ≤ 1000 := by omega
      have c1 : decide ((k : Int) < lenI x0) = true := by simp [lenI]; omega
      have j0 : idx [a, b] 0 = some a := rfl
      have hfill := p3_l2_eq n x0 k [a, b] b (by rw [hg, he]) rfl (2 + a % 254).toNat hM n 0 (List.replicate (2 + a % 254).toNat 0) (by simp) (by omega) (by omega) (by simp)
      have hco : (((2 + a % 254).toNat : Nat) : Int) = 2 + a % 254 := by omega
      rw [hco] at hfill
      have hfill' : p3_l2 n x0 (k : Int) (2 + a % 254) n 0 (List.replicate (2 + a % 254).toNat 0) = _ := hfill
      have j1 : idx (List.replicate (2 + a % 254).toNat b) 0 = some b := (idx_nat _ 0).trans (by rw [List.getElem?_replicate, if_pos (by omega)])
      have hw : IntKind.wrap .u8 (2 + a % 254) = 2 + a % 254 := by rw [wrap_u8]; omega
      have hmk : (List.replicate (2 + a % 254).toNat b).set (0 : Int).toNat (2 + a % 254) = mkB x0.xs[k] := by rw [he]; rfl
      rw [if_pos c1, idx_nat, hg, Option.bind_some, he, j0, Option.bind_some, remI_ok h1.1 (by decide) (by simp; omega), Option.bind_some, ck_i64 (by omega), Option.bind_some, mkI_ok (by omega) (by omega) (by omega), Option.bind_some]
      rw [hfill', Option.bind_some, j1, Option.bind_some, hw, hmk]
      rw [appI_ok (by simp; omega), Option.bind_some, catS_ok' (by show bs.length + (mkB x0.xs[k]).length ≤ _; omega), Option.bind_some, ck_i64 (by omega), Option.bind_some]
      have ih := p3_l1_eq n x0 hx hl hn m (k + 1) (acc ++ [mkB x0.xs[k]]) (bs ++ mkB x0.xs[k]) (by omega) (by omega) (by simp [ha]) (by rw [List.length_append]; omega)
      rw [List.drop_eq_getElem_cons hkl, List.map_cons, List.flatten_cons]
      refine ih.trans ?_
      simp
    · have c1 : ¬ decide ((k : Int) < lenI x0) = true := by simp [lenI]; omega
      rw [if_neg c1, List.drop_eq_nil_of_le (by omega)]
      simp
theorem p3_l3_nil (n : Nat) (y : List Int × List (List Int)) (t : Sl (Sl Int) × Int) (ht : t.1.xs = []) (m : Nat) : p3_l3 n y t (m + 1) 0 = some (.inl ()) := by
  unfold p3_l3
  rw [if_neg (by simp [lenI, ht])]
theorem p3_ok (n : Nat) (x0 : Sl (List Int)) (x1 : Sl Int) (hx : ∀ e ∈ x0.xs, PairOk e) (hB : Byt x1.xs) (hn : 5000 < n) : p3 n x0 x1 = some true := by
  unfold p3
  rw [orS, Option.bind_some]
  by_cases hq : (decide (lenI x0 > 40) || decide (lenI x1 > 300)) = true
  · rw [if_pos hq]
    rfl
  · rw [if_neg hq]
    rw [Bool.or_eq_true, decide_eq_true_iff, decide_eq_true_iff] at hq
    have hl0 : x0.xs.length ≤ 40 := by have : ¬ ((x0.xs.length : Int) > 40) := fun h => hq (.inl h); omega
    have hl1 : x1.xs.length ≤ 300 := by have : ¬ ((x1.xs.length : Int) > 300) := fun h => hq (.inr h); omega
    have h1 := p3_l1_eq n x0 hx hl0 (by omega) n 0 [] [] (by omega) (by omega) rfl (by simp)
    rw [List.drop_zero, List.nil_append, List.nil_append] at h1
    generalize hps : x0.xs.map mkB = ps at h1
    have hpl : ps.length ≤ 40 := by rw [← hps, List.length_map]; exact hl0
    have hpo : ∀ p ∈ ps, 2 ≤ p.length ∧ p[0]? = some (p.length : Int) := by
      intro p hp
      rw [← hps] at hp
      obtain ⟨e, he, rfl⟩ := List.mem_map.1 hp
      exact ⟨(mkB_ok (hx e he)).1, (mkB_ok (hx e he)).2.2⟩
    have h1' : p3_l1 n x0 n 0 [] [] = some (ps.flatten, ps) := h1
    rw [h1', Option.bind_some, p12_eq n _ hn, Option.bind_some]
    obtain ⟨k, rfl⟩ : ∃ k, n = k + 1 := ⟨n - 1, by omega⟩
    have h2 : ∀ (f : Unit → Option Bool), ((if decide (lenS ps.flatten > 4096) = true then ((if ((divB (k + 1) ps.flatten).2 != 3) = false then some (lenI (divB (k + 1) ps.flatten).1 != 0) else some true).bind fun q_112 => if q_112 = true then some (.inr false) else some (.inl ())) else
        (if ((divB (k + 1) ps.flatten).2 != 0) = false then some (lenI (divB (k + 1) ps.flatten).1 != lenI (⟨ps, .none⟩ : Sl (List Int))) else some true).bind fun q_114 => (if q_114 = false then (capO (divB (k + 1) ps.flatten).1).bind fun x_119 => some (x_119 != lenI (divB (k + 1) ps.flatten).1) else some true).bind fun q_117 => if q_117 = true then some (.inr false) else some (.inl ())).bind fun (j_110 : Unit ⊕ Bool) => lrK j_110 some fun s => (p3_l3 (k + 1) (ps.flatten, ps) (divB (k + 1) ps.flatten) (k + 1) 0).bind fun y => lrK y some f) = f () := by
      intro f
      by_cases hb : ps.flatten.length > 4096
      · have hd : divB (k + 1) ps.flatten = (⟨[], some 0⟩, 3) := by unfold divB; rw [if_pos hb]
        rw [hd, p3_l3_nil (k + 1) _ _ rfl k, if_pos (decide_eq_true (by show ((ps.flatten.length : Nat) : Int) > 4096; omega))]
        rfl
      · have hd : divB (k + 1) ps.flatten = (⟨ps.map tight, some ps.length⟩, 0) := by unfold divB; rw [if_neg hb, cutB_join (k + 1) ps hpo (by omega)]
        have h3 := p3_l3_eq (k + 1) (ps.flatten, ps) (⟨ps.map tight, some ps.length⟩, 0) rfl (by show ps.length ≤ 1000; omega) (k + 1) 0 (by show ps.length < 0 + (k + 1); omega) (by omega)
        have h3' : p3_l3 (k + 1) (ps.flatten, ps) (⟨ps.map tight, some ps.length⟩, 0) (k + 1) 0 = some (.inl ()) := h3
        rw [hd, h3', if_neg (fun h => by have h6 : ((ps.flatten.length : Nat) : Int) > 4096 := of_decide_eq_true h; omega)]
        simp [lenI, capO, lrK]
    refine (h2 _).trans ?_
    rw [p12_eq (k + 1) _ hn, Option.bind_some]
    have h4 := p3_l4_eq (k + 1) x1 hB (by omega) (k + 1) 0 0 (by omega) (by omega) (by omega)
    have h4' : p3_l4 (k + 1) x1 (k + 1) 0 0 = some (((walkB (k + 1) x1.xs 0 0).1 : Int), ((walkB (k + 1) x1.xs 0 0).2 : Int)) := h4
    rw [h4', Option.bind_some]
    have hw := walk_cut (k + 1) x1.xs 0 0 (by omega) (by omega)
    rw [List.drop_zero] at hw
    cases hc : cutB (k + 1) x1.xs with
    | none =>
      rw [hc] at hw
      have hd : divB (k + 1) x1.xs = (⟨[], some 0⟩, 4) := by unfold divB; rw [if_neg (by omega), hc]
      have hw' : (walkB (k + 1) x1.xs 0 0).1 < x1.xs.length := hw
      rw [hd, if_pos (by simp [lenI]; omega)]
      simp [lenI, p11]
    | some qs =>
      rw [hc] at hw
      have hw' : walkB (k + 1) x1.xs 0 0 = (x1.xs.length, 0 + qs.length) := hw
      obtain ⟨c1, c2⟩ := cutB_all _ _ _ hc
      have hd : divB (k + 1) x1.xs = (⟨qs.map tight, some qs.length⟩, 0) := by unfold divB; rw [if_neg (by omega), hc]
      have hql : qs.length ≤ qs.flatten.length := by
        have : ∀ (l : List (List Int)), (∀ p ∈ l, 2 ≤ p.length ∧ p[0]? = some (p.length : Int)) → l.length ≤ l.flatten.length := by
          intro l
          induction l with
          | nil => simp
          | cons p l ih => intro h; have := ih fun q hq => h q (by simp [hq]); have := (h p (by simp)).1; simp only [List.length_cons, List.flatten_cons, List.length_append]; omega
        exact this qs c2
      have h5 := p3_l5_eq (k + 1) (⟨qs.map tight, some qs.length⟩, 0) qs rfl c2 (by rw [c1]; omega) (by rw [c1] at hql; omega) (k + 1) 0 (by rw [c1] at hql; omega) (by omega)
      have h5' : p3_l5 (k + 1) (⟨qs.map tight, some qs.length⟩, 0) (k + 1) 0 [] = some (.inl qs.flatten) := h5
      rw [hd, hw', if_neg (by simp [lenI]), h5']
      simp [lrK, lenI, c1, p11]
theorem pairs_of {w : World} {K : Nat → Prop} {v : Value} {x : Sl (List Int)} (h : RepV (.sl (.arr 2 (.int .u8))) w K v x) : ∀ e ∈ x.xs, PairOk e := by
  intro e he
  obtain ⟨A, m, c, _, h1, _, _, _, h5⟩ := h.sl
  obtain ⟨j, hj⟩ := List.getElem?_of_mem he
  obtain ⟨b, off, _, _, _, _, cs, hr, _⟩ := h5.el hj
  obtain ⟨hl, css, _, hcl, hc⟩ := hr
  obtain ⟨a, b, rfl⟩ : ∃ a b, e = [a, b] := by
    match e, hl with
    | [a, b], _ => exact ⟨a, b, rfl⟩
  match css, hcl with
  | [c0, c1], _ =>
    have q0 := hc 0 c0 a rfl rfl
    have q1 := hc 1 c1 b rfl rfl
    exact ⟨a, b, rfl, inR_u8.1 q0.2, inR_u8.1 q1.2⟩
end Go.Proofs.Ytojifdijcanbpaa
