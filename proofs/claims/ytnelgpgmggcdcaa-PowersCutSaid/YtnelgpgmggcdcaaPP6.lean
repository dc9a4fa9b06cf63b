/- Powers in plain words: the trees of plain data are accepted. Plain theorems, no condition. -/
import Derived.Test.YtnelgpgmggcdcaaPP5
set_option linter.unusedVariables false
set_option linter.unusedSimpArgs false
namespace Go.Proofs.Ytnelgpgmggcdcaa
open Go.RowKit

theorem rem8 {x y : Int} (h : 0 ≤ x ∧ x ≤ 255) (hy : 0 < y ∧ y ≤ 256) : remI .u8 x y = some (x % y) :=
  remI_ok h.1 hy.1 (inR_u8.2 ⟨Int.emod_nonneg x (by omega), by have := Int.emod_lt_of_pos x hy.1; omega⟩)
theorem quo8 {x y : Int} (h : 0 ≤ x ∧ x ≤ 255) (hy : 0 < y) : quoI .u8 x y = some (x / y) :=
  quoI_ok h.1 hy (inR_u8.2 ⟨Int.ediv_nonneg h.1 (by omega), by have := Int.ediv_le_self y h.1; omega⟩)
theorem g_app {l : List It} {y : It} {j : Nat} (h : j < l.length) : g (l ++ [y]) j = g l j := by
  unfold g; rw [List.getD_eq_getElem?_getD, List.getD_eq_getElem?_getD, List.getElem?_append_left h]
theorem g_last (l : List It) (y : It) : g (l ++ [y]) l.length = y := by
  unfold g; rw [List.getD_eq_getElem?_getD]; simp
theorem anc_app {l : List It} {y : It} (h : ∀ j, j < l.length → Ok l j) {j : Nat} (hj : j < l.length) : anc (l ++ [y]) j = anc l j := by
  have e := anc_take (l := l ++ [y]) (i := l.length) (fun k hk => by rw [g_app hk]; exact (h k hk).up1) hj
  rw [List.take_left] at e
  exact e.symm
theorem tiers_app {l : List It} {y : It} (h : ∀ j, j < l.length → Ok l j) {j : Nat} (hj : j < l.length) : tiers (l ++ [y]) j = tiers l j := by
  unfold tiers; rw [anc_app h hj, g_app hj]
theorem Ok.app {l : List It} {y : It} (h : ∀ j, j < l.length → Ok l j) {i : Nat} (hi : i < l.length) : Ok (l ++ [y]) i := by
  have o := h i hi
  constructor
  · rw [g_app hi]; exact o.up1
  · rw [g_app hi]; exact o.port1
  · rw [g_app hi]; exact o.need1
  · rw [g_app hi]; exact o.selfhub
  · intro k hk; rw [g_app hi, g_app (by omega)]; exact o.free k hk
  · intro h0
    rw [g_app hi] at h0 ⊢
    have := o.up1
    rw [g_app (show (up (g l i)).toNat < l.length by omega), tiers_app h hi]
    exact o.above h0
theorem WTof {l : List It} (h : ∀ j, j < l.length → Ok l j) (hl : l.length ≤ 200) : WT l := ⟨hl, fun i hi => (h i hi).up1, fun i hi => (h i hi).need1⟩
/-- The tiers of an item that is put behind. -/
theorem tiers_new {l : List It} {y : It} (h : ∀ j, j < l.length → Ok l j) (hl : l.length ≤ 199) (hu : -1 ≤ up y ∧ up y < l.length) (hy : 0 ≤ need y ∧ need y ≤ 500) (hub_ : 0 ≤ up y → hub (g l (up y).toNat) = true) :
    tiers (l ++ [y]) l.length = (if hub y then 1 else 0) + (if 0 ≤ up y then tiers l (up y).toNat else 0) := by
  have hW : WT (l ++ [y]) := by
    refine ⟨by rw [List.length_append]; simp; omega, fun j hj => ?_, fun j hj => ?_⟩
    all_goals
      rw [List.length_append, List.length_singleton] at hj
      by_cases hjl : j < l.length
      · rw [g_app hjl]; first | exact (h j hjl).up1 | exact (h j hjl).need1
      · obtain rfl : j = l.length := by omega
        rw [g_last]; first | exact hu | exact hy
  unfold tiers
  rw [anc_eq hW (by simp), g_last]
  by_cases h0 : 0 ≤ up y
  · rw [if_pos h0, if_pos h0, List.length_cons, anc_app h (by omega), hub_ h0, if_pos rfl]; omega
  · rw [if_neg h0, if_neg h0]; rfl
theorem Ok.new {l : List It} {y : It} (h : ∀ j, j < l.length → Ok l j) (hl : l.length ≤ 199) (hu : -1 ≤ up y ∧ up y < l.length) (hp : 1 ≤ port y ∧ port y ≤ 7) (hn : 0 ≤ need y ∧ need y ≤ 500) (hs : self y = true → hub y = true)
    (hf : ∀ k, k < l.length → ¬ (up (g l k) = up y ∧ port (g l k) = port y)) (ha : 0 ≤ up y → hub (g l (up y).toNat) = true ∧ (self (g l (up y).toNat) = true ∨ port y ≤ 4) ∧ (sleep y = true ∨ sleep (g l (up y).toNat) = false) ∧ (hub y = true → tiers l (up y).toNat ≤ 4) ∧ tiers l (up y).toNat ≤ 5) : Ok (l ++ [y]) l.length := by
  constructor
  · rw [g_last]; exact hu
  · rw [g_last]; exact hp
  · rw [g_last]; exact hn
  · rw [g_last]; exact hs
  · intro k hk; rw [g_last, g_app hk]; exact hf k hk
  · intro h0
    rw [g_last] at h0 ⊢
    rw [g_app (by omega), tiers_new h hl hu hn (fun h0 => (ha h0).1), if_pos h0]
    obtain ⟨h1, h2, h3, h4, h5⟩ := ha h0
    refine ⟨h1, h2, h3, ?_⟩
    cases hb : hub y with
    | true => have := h4 hb; rw [if_pos rfl]; omega
    | false => rw [if_neg (by decide)]; omega
theorem p9_l2_ok (n : Nat) {l : List It} (hl : l.length ≤ 200) (h : ∀ j, j < l.length → Ok l j) (u : Int) : ∀ (m k : Nat) (used : List Int), k ≤ l.length → l.length - k < m → used.length = 8 →
    ∃ r, p9_l2 n l u m k used = some r ∧ r.length = 8 ∧ (∀ p, used.getD p 0 ≠ 0 → r.getD p 0 ≠ 0) ∧ ∀ j, k ≤ j → j < l.length → up (g l j) = u → r.getD (port (g l j)).toNat 0 ≠ 0
  | 0, k, _, _, h, _ => absurd h (by omega)
  | m + 1, k, used, hk, hm, hu => by
    unfold p9_l2
    rw [lenI_mk]
    by_cases hlt : k < l.length
    · rw [if_pos (decide_eq_true (show (k : Int) < (l.length : Int) by omega)), idx_g hlt, Option.bind_some]
      have hp := (h k hlt).port1
      by_cases hc : up (g l k) = u
      · rw [if_pos (show ((g l k).1 == u) = true by show (up (g l k) == u) = true; rw [hc]; simp), Option.bind_some]
        obtain ⟨p, hp'⟩ : ∃ p : Nat, port (g l k) = p := ⟨(port (g l k)).toNat, by omega⟩
        rw [show (g l k).2.1 = (p : Int) from hp', idxD 0 (show p < used.length by omega), Option.bind_some, Option.bind_some, ckS (by omega) (by omega), Option.bind_some, show ((k : Int) + 1) = ((k + 1 : Nat) : Int) by simp, Int.toNat_natCast]
        obtain ⟨r, h1, h2, h3, h4⟩ := p9_l2_ok n hl h u m (k + 1) (used.set p 1) (by omega) (by omega) (by simp [hu])
        have hset : ∀ q, (q = p ∨ used.getD q 0 ≠ 0) → (used.set p 1).getD q 0 ≠ 0 := fun q hq => by
          rw [List.getD_eq_getElem?_getD, List.getElem?_set]
          by_cases e : p = q
          · subst e; rw [if_pos rfl, if_pos (by omega)]; decide
          · rw [if_neg e, ← List.getD_eq_getElem?_getD]; exact hq.resolve_left fun k => e k.symm
        refine ⟨r, h1, h2, fun q hq => h3 q (hset q (.inr hq)), fun j a b c => ?_⟩
        by_cases hj : j = k
        · subst hj; rw [hp', Int.toNat_natCast]; exact h3 p (hset p (.inl rfl))
        · exact h4 j (by omega) b c
      · rw [if_neg (show ¬ ((g l k).1 == u) = true by show ¬ (up (g l k) == u) = true; simpa using hc), Option.bind_some, ckS (by omega) (by omega), Option.bind_some, show ((k : Int) + 1) = ((k + 1 : Nat) : Int) by simp]
        obtain ⟨r, h1, h2, h3, h4⟩ := p9_l2_ok n hl h u m (k + 1) used (by omega) (by omega) hu
        refine ⟨r, h1, h2, h3, fun j a b c => ?_⟩
        by_cases hj : j = k
        · subst hj; exact absurd c hc
        · exact h4 j (by omega) b c
    · rw [if_neg (by rw [decide_eq_true_eq]; omega)]
      exact ⟨used, rfl, hu, fun _ h => h, fun j a b => absurd b (by omega)⟩
theorem p9_l4_l2 (n : Nat) (l : List It) (u : Int) : ∀ (m : Nat) (k : Int) (used : List Int), p9_l4 n l u m k used = p9_l2 n l u m k used
  | 0, _, _ => rfl
  | m + 1, k, used => by unfold p9_l4 p9_l2; simp only [p9_l4_l2 n l u m]
theorem p9_l3_ok (n : Nat) {x : Sl (Int × Int × Int × Int)} {k : Nat} {e : Int × Int × Int × Int} (hx : idx x.xs (k : Int) = some e) (he : 0 ≤ e.2.1 ∧ e.2.1 ≤ 255) {most : Int} (hm : 1 ≤ most ∧ most ≤ 7) {used : List Int} (hu : used.length = 8) : ∀ (m i : Nat) (y : It), (i : Int) ≤ most → most.toNat - i < m → (port y = 0 ∨ (1 ≤ port y ∧ port y ≤ most ∧ used.getD (port y).toNat 0 = 0)) →
    ∃ p, p9_l3 n x k most used m i y = some (up y, p, hub y, self y, ready y, sleep y, need y) ∧ (p = 0 ∨ (1 ≤ p ∧ p ≤ most ∧ used.getD p.toNat 0 = 0))
  | 0, i, y, _, h, _ => absurd h (by omega)
  | m + 1, i, y, hi, hmi, hp => by
    unfold p9_l3
    rw [andS, Option.bind_some]
    by_cases hc : (i : Int) < most ∧ port y = 0
    · rw [if_pos (by rw [Bool.and_eq_true]; exact ⟨decide_eq_true hc.1, by show (port y == 0) = true; rw [hc.2]; rfl⟩), hx, Option.bind_some, ckS (by omega) (by omega), Option.bind_some, remS (by omega) (by omega) (by omega), Option.bind_some]
      have h1 := Int.emod_nonneg (e.2.1 + i) (show most ≠ 0 by omega)
      have h2 := Int.emod_lt_of_pos (e.2.1 + i) (show 0 < most by omega)
      rw [ckS (by omega) (by omega), Option.bind_some]
      obtain ⟨q, hq⟩ : ∃ q : Nat, 1 + (e.2.1 + i) % most = q := ⟨(1 + (e.2.1 + i) % most).toNat, by omega⟩
      rw [hq, idxD 0 (show q < used.length by omega), Option.bind_some]
      have hw : IntKind.wrap .u8 (q : Int) = q := by rw [wrap_u8]; omega
      by_cases hz : used.getD q 0 = 0
      · rw [if_pos (by rw [hz]; rfl), hw, Option.bind_some, ckS (by omega) (by omega), Option.bind_some, show ((i : Int) + 1) = ((i + 1 : Nat) : Int) by simp]
        exact p9_l3_ok n hx he hm hu m (i + 1) (up y, (q : Int), hub y, self y, ready y, sleep y, need y) (by omega) (by omega) (.inr ⟨by show 1 ≤ (q : Int); omega, by show (q : Int) ≤ most; omega, by show used.getD (q : Int).toNat 0 = 0; rw [Int.toNat_natCast]; exact hz⟩)
      · rw [if_neg (by simpa using hz), Option.bind_some, ckS (by omega) (by omega), Option.bind_some, show ((i : Int) + 1) = ((i + 1 : Nat) : Int) by simp]
        exact p9_l3_ok n hx he hm hu m (i + 1) y (by omega) (by omega) hp
    · rw [if_neg (fun h => hc (by rw [Bool.and_eq_true, decide_eq_true_eq] at h; exact ⟨h.1, by have h2 : (port y == 0) = true := h.2; simpa using h2⟩))]
      exact ⟨port y, rfl, hp⟩
theorem p9_l5_l3 (n : Nat) (x : Sl (Int × Int × Int × Int)) (k : Int) (used : List Int) : ∀ (m : Nat) (i : Int) (y : It), p9_l5 n x k used m i y = p9_l3 n x k 7 used m i y
  | 0, _, _ => rfl
  | m + 1, i, y => by unfold p9_l5 p9_l3; simp only [p9_l5_l3 n x k used m]
/-- What is kept of the tree: its items fit, and the tiers are right. -/
structure Inv9 (l : List It) (ts : List Int) : Prop where
  ok : ∀ j, j < l.length → Ok l j
  len : ts.length = l.length
  ts : ∀ j, j < l.length → ts.getD j 0 = tiers l j ∧ tiers l j ≤ 5
theorem Inv9.app {l : List It} {ts : List Int} (h : Inv9 l ts) (hl : l.length ≤ 199) {y : It} {t : Int} (ho : Ok (l ++ [y]) l.length) (ht : t = tiers (l ++ [y]) l.length) (h5 : tiers (l ++ [y]) l.length ≤ 5) : Inv9 (l ++ [y]) (ts ++ [t]) := by
  refine ⟨fun j hj => ?_, by simp [h.len], fun j hj => ?_⟩
  · rw [List.length_append, List.length_singleton] at hj
    by_cases hjl : j < l.length
    · exact Ok.app h.ok hjl
    · obtain rfl : j = l.length := by omega
      exact ho
  · rw [List.length_append, List.length_singleton] at hj
    by_cases hjl : j < l.length
    · rw [tiers_app h.ok hjl, List.getD_eq_getElem?_getD, List.getElem?_append_left (by rw [h.len]; exact hjl), ← List.getD_eq_getElem?_getD]; exact h.ts j hjl
    · obtain rfl : j = l.length := by omega
      refine ⟨?_, h5⟩
      rw [List.getD_eq_getElem?_getD, ← h.len]
      simp only [List.getElem?_concat_length, Option.getD_some]
      rw [h.len]; exact ht
def In9 (x : Sl (Int × Int × Int × Int)) : Prop := ∀ e ∈ x.xs, (0 ≤ e.1 ∧ e.1 ≤ 255) ∧ (0 ≤ e.2.1 ∧ e.2.1 ≤ 255) ∧ (0 ≤ e.2.2.1 ∧ e.2.2.1 ≤ 255) ∧ (0 ≤ e.2.2.2 ∧ e.2.2.2 ≤ 65535)
theorem andI {b : Bool} {x : Option Bool} {c : Bool} (h : x = some c) : (if b = true then x else some false) = some (b && c) := by cases b <;> simp [h]
theorem orI {b : Bool} {x : Option Bool} {c : Bool} (h : x = some c) : (if b = false then x else some true) = some (b || c) := by cases b <;> simp [h]
theorem iteS {α : Type} {b : Bool} {x y : α} : (if b = true then some x else some y) = some (if b then x else y) := by cases b <;> rfl
theorem p9_l1_ok {n : Nat} (hn : 300 ≤ n) {x : Sl (Int × Int × Int × Int)} (hx : In9 x) : ∀ (m k : Nat) (ts : List Int) (l : List It), k ≤ 40 → 40 - k < m → Inv9 l ts → l.length ≤ k → ∃ r, p9_l1 n x m k ts l = some r ∧ (∀ j, j < r.length → Ok r j) ∧ r.length ≤ 40 := by
  intro m
  induction m with
  | zero => intro k _ _ _ h; exact absurd h (by omega)
  | succ m ih_ =>
    intro k ts l hk hm hI hl
    unfold p9_l1
    rw [andS, Option.bind_some]
    by_cases hc : (k : Int) < lenI x ∧ (k : Int) < 40
    · rw [if_pos (by rw [Bool.and_eq_true]; exact ⟨decide_eq_true hc.1, decide_eq_true hc.2⟩)]
      have hkx : k < x.xs.length := by have : (k : Int) < (x.xs.length : Int) := hc.1; omega
      obtain ⟨e, he⟩ : ∃ e, x.xs[k]? = some e := ⟨_, List.getElem?_eq_getElem hkx⟩
      have hei : idx x.xs (k : Int) = some e := by rw [idx_nat, he]
      obtain ⟨e1, e2, e3, e4⟩ := hx e (List.mem_of_getElem? he)
      have ckk : ckI .i64 ((k : Int) + 1) = some ((k + 1 : Nat) : Int) := by rw [ckS (by omega) (by omega)]; simp
      have hr1 := Int.emod_nonneg e.1 (show (l.length : Int) + 1 ≠ 0 by omega)
      have hr2 := Int.emod_lt_of_pos e.1 (show (0 : Int) < (l.length : Int) + 1 by omega)
      have hr3 := Int.emod_nonneg e.2.2.2 (show (501 : Int) ≠ 0 by omega)
      have hr4 := Int.emod_lt_of_pos e.2.2.2 (show (0 : Int) < 501 by omega)
      have hq2 := Int.ediv_nonneg e3.1 (show (0 : Int) ≤ 2 by omega)
      have hq2' := Int.ediv_le_self 2 e3.1
      have hq4 := Int.ediv_nonneg e3.1 (show (0 : Int) ≤ 4 by omega)
      have hq4' := Int.ediv_le_self 4 e3.1
      have hq8 := Int.ediv_nonneg e3.1 (show (0 : Int) ≤ 8 by omega)
      have hq8' := Int.ediv_le_self 8 e3.1
      rw [hei, ckk, Option.bind_some, lenI_mk, ckS (show -9223372036854775808 ≤ (l.length : Int) + 1 by omega) (by omega), Option.bind_some, remS e1.1 (by omega) (by omega), Option.bind_some, ckS (by omega) (by omega), Option.bind_some, Option.bind_some, rem8 e3 (by decide), Option.bind_some, Option.bind_some, quo8 e3 (by decide), Option.bind_some, rem8 ⟨hq4, by omega⟩ (by decide), Option.bind_some, Option.bind_some, quo8 e3 (by decide), Option.bind_some, rem8 ⟨hq8, by omega⟩ (by decide), Option.bind_some, Option.bind_some, remS e4.1 (by decide) (by omega), Option.bind_some, Option.bind_some]
      rw [show ((quoI .u8 e.2.2.1 2).bind fun x_290 => (remI .u8 x_290 2).bind fun x_291 => some (x_291 == 1)) = some (e.2.2.1 / 2 % 2 == 1) by rw [quo8 e3 (by decide), Option.bind_some, rem8 ⟨hq2, by omega⟩ (by decide), Option.bind_some], andS, Option.bind_some]
      generalize hU : e.1 % ((l.length : Int) + 1) - 1 = u
      generalize hN : e.2.2.2 % 501 = nd at hr3 hr4 ⊢
      generalize (e.2.2.1 % 2 == 1) = bh
      generalize (e.2.2.1 / 2 % 2 == 1) = bs
      generalize (e.2.2.1 / 4 % 2 == 1) = br
      generalize (e.2.2.1 / 8 % 2 == 1) = bz
      have hu : -1 ≤ u ∧ u < l.length := by omega
      have hts : ts.length + 1 ≤ 1099511627776 := by rw [hI.len]; omega
      have ih0 : ∃ r, p9_l1 n x m ((k + 1 : Nat) : Int) ts l = some r ∧ (∀ j, j < r.length → Ok r j) ∧ r.length ≤ 40 := ih_ (k + 1) ts l (by omega) (by omega) hI (by omega)
      by_cases h0 : u ≥ 0
      · rw [if_pos (decide_eq_true h0)]
        obtain ⟨v, rfl⟩ : ∃ v : Nat, u = v := ⟨u.toNat, by omega⟩
        have hv : v < l.length := by omega
        rw [idx_g hv, Option.bind_some]
        cases hh : hub (g l v) with
        | false => rw [if_pos (show (!(g l v).2.2.1) = true by show (!hub (g l v)) = true; rw [hh]; rfl), Option.bind_some]; exact ih0
        | true =>
          rw [if_neg (show ¬ (!(g l v).2.2.1) = true by show ¬ (!hub (g l v)) = true; rw [hh]; decide), idxD 0 (show v < ts.length by rw [hI.len]; exact hv), Option.bind_some, Option.bind_some, show (if (!(g l v).2.2.2.1) = true then some (4 : Int) else some 7) = some (if (!(g l v).2.2.2.1) = true then 4 else 7) from iteS, Option.bind_some, show ((some (g l v)).bind fun y_319 => some y_319.2.2.2.2.2.1) = some (g l v).2.2.2.2.2.1 from rfl, orS, Option.bind_some, andS, Option.bind_some]
          obtain ⟨t1, t2⟩ := hI.ts v hv
          rw [t1]
          generalize hmo : (if (!(g l v).2.2.2.1) = true then (4 : Int) else 7) = most
          have hmost : 1 ≤ most ∧ most ≤ 7 := by subst hmo; split <;> omega
          have hmost4 : self (g l v) = true ∨ most = 4 := by
            subst hmo
            cases hs : self (g l v)
            · right; rw [show (g l v).2.2.2.1 = false from hs]; rfl
            · exact .inl rfl
          rw [iteS, Option.bind_some]
          obtain ⟨used, hus, hul, _, husd⟩ := p9_l2_ok n (by omega : l.length ≤ 200) hI.ok (v : Int) n 0 (List.replicate 8 0) (Nat.zero_le _) (by omega) (by simp)
          rw [show (0 : Int) = ((0 : Nat) : Int) from rfl] at hus ⊢
          rw [hus, Option.bind_some]
          generalize hy : (if (bh && (tiers l v : Int) == 5) = true then ((v : Int), ((0 : Nat) : Int), false, false, br, (bz || (g l v).2.2.2.2.2.1), nd) else ((v : Int), ((0 : Nat) : Int), bh, (bh && bs), br, (bz || (g l v).2.2.2.2.2.1), nd)) = y
          obtain ⟨p, hp1, hp2⟩ := p9_l3_ok n hei e2 hmost hul n 0 y (by omega) (by omega) (.inl (by subst hy; split <;> rfl))
          rw [hp1, Option.bind_some]
          generalize hz : (up y, p, hub y, self y, ready y, sleep y, need y) = z
          have zp : port z = p := by subst hz; rfl
          have zh : hub z = hub y := by subst hz; rfl
          rw [show z.2.1 = p from zp, show z.2.2.1 = hub y from zh]
          by_cases hp0 : p = 0
          · rw [if_pos (by rw [hp0]; rfl), Option.bind_some]; exact ih0
          · obtain ⟨p1, p2, p3⟩ := hp2.resolve_left hp0
            rw [if_neg (by simpa using hp0), appI_ok (by simp; omega), Option.bind_some]
            have fy : up y = v ∧ need y = nd ∧ (self y = true → hub y = true) ∧ (sleep y = (bz || sleep (g l v))) ∧ (hub y = true → (tiers l v : Int) ≠ 5) := by
              subst hy
              split
              · exact ⟨rfl, rfl, fun h => h, rfl, fun h => by cases h⟩
              · rename_i hc5
                refine ⟨rfl, rfl, fun h => ?_, rfl, fun h h5 => hc5 ?_⟩
                · have h : (bh && bs) = true := h
                  rw [Bool.and_eq_true] at h; exact h.1
                · have h : bh = true := h
                  rw [h, h5]; rfl
            have zu : up z = v := by subst hz; exact fy.1
            have zs : self z = self y := by subst hz; rfl
            have zz : sleep z = sleep y := by subst hz; rfl
            have zn : need z = nd := by subst hz; exact fy.2.1
            have hOk : Ok (l ++ [z]) l.length := by
              refine Ok.new hI.ok (by omega) (by rw [zu]; omega) (by rw [zp]; omega) (by rw [zn]; omega) (by rw [zs, zh]; exact fy.2.2.1) (fun j hj hjj => ?_) fun _ => ?_
              · rw [zu, zp] at hjj
                exact husd j (Nat.zero_le _) hj hjj.1 (by rw [hjj.2]; exact p3)
              · rw [zu, Int.toNat_natCast]
                refine ⟨hh, ?_, ?_, fun hy2 => ?_, t2⟩
                · rw [zp]; rcases hmost4 with h | h
                  · exact .inl h
                  · exact .inr (by omega)
                · rw [zz, fy.2.2.2.1]
                  cases hsl : sleep (g l v)
                  · exact .inr rfl
                  · exact .inl (by simp)
                · rw [zh] at hy2
                  have := fy.2.2.2.2 hy2
                  omega
            have hti := tiers_new (y := z) hI.ok (by omega) (by rw [zu]; omega) (by rw [zn]; omega) (fun _ => by rw [zu, Int.toNat_natCast]; exact hh)
            rw [zu, zh, if_pos (show (0 : Int) ≤ ((v : Nat) : Int) by omega), Int.toNat_natCast] at hti
            have hti5 : tiers (l ++ [z]) l.length ≤ 5 := by
              rw [hti]
              cases hyb : hub y with
              | true => have := fy.2.2.2.2 hyb; rw [if_pos rfl]; omega
              | false => rw [if_neg (by decide)]; omega
            have ej : (if hub y = true then (ckI .i64 ((tiers l v : Int) + 1)).bind fun x_419 => some x_419 else some (tiers l v : Int)) = some (tiers (l ++ [z]) l.length : Int) := by
              rw [hti]
              cases hyb : hub y with
              | true => simp only [if_true]; rw [ckS (by omega) (by omega), Option.bind_some]; exact congrArg some (by omega)
              | false => simp
            rw [show (hub y) = (hub y) from rfl, ej, Option.bind_some, appI_ok hts, Option.bind_some, Option.bind_some]
            exact ih_ (k + 1) (ts ++ [(tiers (l ++ [z]) l.length : Int)]) (l ++ [z]) (by omega) (by omega) (hI.app (by omega) hOk rfl hti5) (by simp; omega)
      · obtain rfl : u = -1 := by omega
        rw [if_neg (by decide), andS, Option.bind_some]
        rw [show (bh && (0 == 5)) = false by cases bh <;> rfl, if_neg (by decide), Option.bind_some, p9_l4_l2]
        obtain ⟨used, hus, hul, _, husd⟩ := p9_l2_ok n (by omega : l.length ≤ 200) hI.ok (-1) n 0 (List.replicate 8 0) (Nat.zero_le _) (by omega) (by simp)
        rw [show (0 : Int) = ((0 : Nat) : Int) from rfl] at hus ⊢
        rw [hus, Option.bind_some, p9_l5_l3]
        generalize hy : ((-1 : Int), ((0 : Nat) : Int), bh, (bh && bs), br, bz, nd) = y
        obtain ⟨p, hp1, hp2⟩ := p9_l3_ok n hei e2 (show (1 : Int) ≤ 7 ∧ (7 : Int) ≤ 7 by decide) hul n 0 y (by omega) (by omega) (.inl (by subst hy; rfl))
        rw [hp1, Option.bind_some]
        generalize hz : (up y, p, hub y, self y, ready y, sleep y, need y) = z
        have zp : port z = p := by subst hz; rfl
        have zh : hub z = hub y := by subst hz; rfl
        rw [show z.2.1 = p from zp, show z.2.2.1 = hub y from zh]
        by_cases hp0 : p = 0
        · rw [if_pos (by rw [hp0]; rfl), Option.bind_some]; exact ih0
        · obtain ⟨p1, p2, p3⟩ := hp2.resolve_left hp0
          rw [if_neg (by simpa using hp0), appI_ok (by simp; omega), Option.bind_some]
          have fy : up y = -1 ∧ need y = nd ∧ (self y = true → hub y = true) := by
            subst hy
            refine ⟨rfl, rfl, fun h => ?_⟩
            have h : (bh && bs) = true := h
            rw [Bool.and_eq_true] at h; exact h.1
          have zu : up z = -1 := by subst hz; exact fy.1
          have zs : self z = self y := by subst hz; rfl
          have zn : need z = nd := by subst hz; exact fy.2.1
          have hOk : Ok (l ++ [z]) l.length := by
            refine Ok.new hI.ok (by omega) (by rw [zu]; omega) (by rw [zp]; omega) (by rw [zn]; omega) (by rw [zs, zh]; exact fy.2.2) (fun j hj hjj => ?_) fun h => by rw [zu] at h; omega
            rw [zu, zp] at hjj
            exact husd j (Nat.zero_le _) hj hjj.1 (by rw [hjj.2]; exact p3)
          have hti := tiers_new (y := z) hI.ok (by omega) (by rw [zu]; omega) (by rw [zn]; omega) (fun h => by rw [zu] at h; omega)
          rw [zu, if_neg (show ¬ (0 : Int) ≤ -1 by decide), zh] at hti
          have hti5 : tiers (l ++ [z]) l.length ≤ 5 := by rw [hti]; split <;> omega
          have ej : (if hub y = true then (ckI .i64 (((0 : Nat) : Int) + 1)).bind fun x_419 => some x_419 else some ((0 : Nat) : Int)) = some (tiers (l ++ [z]) l.length : Int) := by
            rw [hti]
            cases hyb : hub y with
            | true => simp only [if_true]; rw [ckS (by omega) (by omega), Option.bind_some]; rfl
            | false => simp
          rw [ej, Option.bind_some, appI_ok hts, Option.bind_some, Option.bind_some]
          exact ih_ (k + 1) (ts ++ [(tiers (l ++ [z]) l.length : Int)]) (l ++ [z]) (by omega) (by omega) (hI.app (by omega) hOk rfl hti5) (by simp; omega)
    · rw [if_neg (fun h => hc (by rw [Bool.and_eq_true, decide_eq_true_eq, decide_eq_true_eq] at h; exact h))]
      exact ⟨l, rfl, hI.ok, by omega⟩
theorem p9_ok {n : Nat} (hn : 300 ≤ n) {x : Sl (Int × Int × Int × Int)} (hx : In9 x) : ∃ l, p9 n x = some ⟨l, .none⟩ ∧ Good l ∧ l.length ≤ 40 := by
  unfold p9
  obtain ⟨r, h1, h2, h3⟩ := p9_l1_ok hn hx n 0 [] [] (by decide) (by omega) ⟨fun j hj => absurd hj (by simp), rfl, fun j hj => absurd hj (by simp)⟩ (Nat.le_refl _)
  rw [show (0 : Int) = ((0 : Nat) : Int) from rfl, h1, Option.bind_some]
  exact ⟨r, rfl, ⟨by omega, h2⟩, h3⟩
end Go.Proofs.Ytnelgpgmggcdcaa
