/- Powers: the law of trees that are accepted, in plain words. Plain theorems, no condition. -/
import Derived.Test.YtnelgpgmggcdcaaPP9
import Derived.Test.YtnelgpgmggcdcaaPk1
set_option linter.unusedVariables false
set_option linter.unusedSimpArgs false
namespace Go.Proofs.Ytnelgpgmggcdcaa
open Go.RowKit

theorem anc_rec {l : List It} {k : Nat} (hl : l.length ≤ 200) (hk : k < l.length) (hU : ∀ j, j ≤ k → -1 ≤ up (g l j) ∧ up (g l j) < j) (hN : ∀ j, j ≤ k → 0 ≤ need (g l j) ∧ need (g l j) ≤ 500) : anc l k = if 0 ≤ up (g l k) then (up (g l k)).toNat :: anc l (up (g l k)).toNat else [] := by
  have hWT : WT (l.take (k + 1)) := ⟨by rw [List.length_take]; omega, fun j hj => by
      rw [List.length_take] at hj; rw [g_take (by omega)]; exact hU j (by omega), fun j hj => by
      rw [List.length_take] at hj; rw [g_take (by omega)]; exact hN j (by omega)⟩
  have hu := hU k (Nat.le_refl _)
  have hV : ∀ j, j < k + 1 → -1 ≤ up (g l j) ∧ up (g l j) < j := fun j hj => hU j (by omega)
  have e := anc_eq hWT (i := k) (by rw [List.length_take]; omega)
  rw [anc_take hV (by omega), g_take (by omega)] at e
  rw [e]
  by_cases h0 : 0 ≤ up (g l k)
  · rw [if_pos h0, if_pos h0, anc_take hV (by omega)]
  · rw [if_neg h0, if_neg h0]
theorem p25_l2_eq {l : List It} {cp : Option Nat} (hl : l.length ≤ 200) (n k : Nat) (hk : k ≤ l.length) (y : It) : ∀ (m j : Nat), j ≤ k → k - j < m →
    (p25_l2 n ⟨l, cp⟩ k y m j = some (.inl ()) ∧ ∀ q, j ≤ q → q < k → ¬ (up (g l q) = up y ∧ port (g l q) = port y)) ∨ (p25_l2 n ⟨l, cp⟩ k y m j = some (.inr 1) ∧ ∃ q, q < k ∧ up (g l q) = up y ∧ port (g l q) = port y)
  | 0, j, _, h => absurd h (by omega)
  | m + 1, j, hj, hm => by
    unfold p25_l2
    by_cases hlt : j < k
    · rw [if_pos (decide_eq_true (show (j : Int) < (k : Int) by omega)), show idx (⟨l, cp⟩ : Sl It).xs (j : Int) = some (g l j) from idx_g (show j < l.length by omega), Option.bind_some, Option.bind_some, andS, Option.bind_some]
      rw [show ((g l j).1 == y.1 && (g l j).2.1 == y.2.1) = (up (g l j) == up y && port (g l j) == port y) from rfl]
      by_cases hc : up (g l j) = up y ∧ port (g l j) = port y
      · right
        rw [hc.1, hc.2, if_pos (by simp)]
        exact ⟨rfl, j, hlt, hc⟩
      · rw [if_neg (by simpa using hc), ckS (by omega) (by omega), Option.bind_some, show ((j : Int) + 1) = ((j + 1 : Nat) : Int) by simp]
        rcases p25_l2_eq (cp := cp) hl n k hk y m (j + 1) (by omega) (by omega) with ⟨h1, h2⟩ | h
        · refine .inl ⟨h1, fun q a b => ?_⟩
          by_cases e : q = j
          · subst e; exact hc
          · exact h2 q (by omega) b
        · exact .inr h
    · left
      rw [if_neg (by rw [decide_eq_true_eq]; omega)]
      exact ⟨rfl, fun q a b => by omega⟩
theorem getD_set {ts : List Int} {k : Nat} (hk : k < ts.length) (v : Int) (j : Nat) : (ts.set k v).getD j 0 = if j = k then v else ts.getD j 0 := by
  rw [List.getD_eq_getElem?_getD, List.getD_eq_getElem?_getD, List.getElem?_set]
  by_cases h : k = j
  · subst h; rw [if_pos rfl, if_pos hk, if_pos rfl]; rfl
  · rw [if_neg h, if_neg fun e => h e.symm]
structure Inv25 (l : List It) (k : Nat) (ts : List Int) : Prop where
  len : ts.length = 128
  old : ∀ j, j < k → ts.getD j 0 = tiers l j
  new : ∀ j, k ≤ j → ts.getD j 0 = 0
theorem p25_round {l : List It} {cp : Option Nat} (hl : l.length ≤ 127) {n : Nat} (hn : 300 ≤ n) {k : Nat} (hk : k < l.length) (hb : ∀ j, j < k → Ok l j) {ts : List Int} (hI : Inv25 l k ts) (m : Nat) :
    (Ok l k ∧ ∃ ts', Inv25 l (k + 1) ts' ∧ p25_l1 n ⟨l, cp⟩ (m + 1) k ts = p25_l1 n ⟨l, cp⟩ m ((k + 1 : Nat) : Int) ts') ∨ (¬ Ok l k ∧ p25_l1 n ⟨l, cp⟩ (m + 1) k ts = some (.inr 1)) := by
  have hil := hI.len
  conv => enter [1, 2, 1, ts', 2]; lhs; unfold p25_l1
  conv => enter [2, 2]; lhs; unfold p25_l1
  rw [lenI_mk, if_pos (decide_eq_true (show (k : Int) < (l.length : Int) by omega)), show idx (⟨l, cp⟩ : Sl It).xs (k : Int) = some (g l k) from idx_g hk, Option.bind_some, orS, Option.bind_some, orS, Option.bind_some, orS, Option.bind_some, orS, Option.bind_some, orS, Option.bind_some, andS, Option.bind_some, orS, Option.bind_some]
  rw [show (((((decide ((g l k).1 < -1) || decide ((g l k).1 ≥ (k : Int))) || decide ((g l k).2.1 < 1)) || decide ((g l k).2.1 > 7)) || decide ((g l k).2.2.2.2.2.2 < 0)) || decide ((g l k).2.2.2.2.2.2 > 500) || ((g l k).2.2.2.1 && !(g l k).2.2.1)) = bad (g l k) k from rfl]
  cases hB : bad (g l k) k with
  | true =>
    right
    rw [if_pos rfl]
    exact ⟨fun h => absurd hB (by rw [not_bad h]; decide), rfl⟩
  | false =>
    obtain ⟨hu, hp, hne, hsh⟩ := (bad_iff _ _).1 hB
    rw [if_neg (by decide)]
    rcases p25_l2_eq (cp := cp) (by omega : l.length ≤ 200) n k (by omega) (g l k) n 0 (Nat.zero_le _) (by omega) with ⟨h1, hfree⟩ | ⟨h1, q, hq1, hq2⟩
    · rw [show p25_l2 n ⟨l, cp⟩ k (g l k) n 0 = some (.inl ()) from h1, Option.bind_some, lrKl]
      have hU : ∀ j, j ≤ k → (-1 ≤ up (g l j) ∧ up (g l j) < j) ∧ 0 ≤ need (g l j) ∧ need (g l j) ≤ 500 := fun j hj => by
        by_cases h : j = k
        · subst h; exact ⟨hu, hne⟩
        · exact ⟨(hb j (by omega)).up1, (hb j (by omega)).need1⟩
      have har := anc_rec (by omega : l.length ≤ 200) hk (fun j hj => (hU j hj).1) (fun j hj => (hU j hj).2)
      have hfr : ∀ q, q < k → ¬ (up (g l q) = up (g l k) ∧ port (g l q) = port (g l k)) := fun q hq => hfree q (Nat.zero_le _) hq
      -- the tiers, where the hub above is right
      have step2 : ∀ (t : Nat) (ts2 : List Int), t ≤ 200 → ts2.length = 128 → ts2.getD k 0 = t → (∀ j, j < k → ts2.getD j 0 = tiers l j) → (∀ j, k + 1 ≤ j → ts2.getD j 0 = 0) → tiers l k = (if hub (g l k) then 1 else 0) + t →
          ∃ ts' : List Int, ts'.getD k 0 = tiers l k ∧ Inv25 l (k + 1) ts' ∧ (if (g l k).2.2.1 = true then (idx ts2 (k : Int)).bind fun y_288 => (ckI .i64 (y_288 + 1)).bind fun x_291 => (idx ts2 (k : Int)).bind fun y_292 => some (ts2.set (k : Int).toNat x_291) else some ts2) = some ts' := by
        intro t ts2 ht h2 hk2 ho hnw hti
        rw [show (g l k).2.2.1 = hub (g l k) from rfl]
        cases hh : hub (g l k) with
        | true =>
          rw [hh, if_pos rfl] at hti
          refine ⟨ts2.set k (t + 1), by rw [getD_set (by omega), if_pos rfl, hti]; omega, ⟨by simp [h2], fun j hj => ?_, fun j hj => ?_⟩, ?_⟩
          · rw [getD_set (by omega)]
            split
            · rename_i e; subst e; rw [hti]; omega
            · exact ho j (by omega)
          · rw [getD_set (by omega), if_neg (by omega)]; exact hnw j hj
          · rw [if_pos rfl, idxD 0 (show k < ts2.length by omega), Option.bind_some, hk2, ckS (by omega) (by omega), Option.bind_some, Option.bind_some, Int.toNat_natCast]
        | false =>
          rw [hh, if_neg (by decide), Nat.zero_add] at hti
          refine ⟨ts2, by rw [hk2, hti], ⟨h2, fun j hj => ?_, hnw⟩, by rw [if_neg (by decide)]⟩
          by_cases e : j = k
          · subst e; rw [hk2, hti]
          · exact ho j (by omega)
      have hlen : ∀ j, (anc l j).length ≤ 200 := fun j => by
        unfold anc
        have : ∀ (f : Nat) (c : Int), (chain l f c).length ≤ f := by
          intro f
          induction f with
          | zero => intro c; simp [chain]
          | succ f ih =>
            intro c
            unfold chain
            split
            · have := ih (up (g l c.toNat)); simp; omega
            · simp
        exact this 200 _
      by_cases h0 : up (g l k) = -1
      · have hti : tiers l k = (if hub (g l k) then 1 else 0) + 0 := by unfold tiers; rw [har, if_neg (show ¬ 0 ≤ up (g l k) by omega)]; rfl
        obtain ⟨ts', e1, e2, e3⟩ := step2 0 ts (by omega) hil (by rw [hI.new k (Nat.le_refl _)]; rfl) hI.old (fun j hj => hI.new j (by omega)) hti
        left
        refine ⟨⟨hu, hp, hne, hsh, hfr, fun h => by omega⟩, ts', e2, ?_⟩
        rw [show (g l k).1 = -1 from h0, if_neg (by decide), Option.bind_some, lrKl, e3, Option.bind_some, idxD 0 (show k < ts'.length by rw [e2.len]; omega), Option.bind_some, e1, if_neg (by rw [decide_eq_true_eq, hti]; split <;> omega), ckS (by omega) (by omega), Option.bind_some, show ((k : Int) + 1) = ((k + 1 : Nat) : Int) by simp]
      · obtain ⟨u, hu'⟩ : ∃ u : Nat, up (g l k) = u := ⟨(up (g l k)).toNat, by omega⟩
        have huk : u < k := by omega
        rw [show (g l k).1 = (u : Int) from hu', if_pos (decide_eq_true (show (u : Int) ≥ 0 by omega)), show idx (⟨l, cp⟩ : Sl It).xs (u : Int) = some (g l u) from idx_g (show u < l.length by omega), Option.bind_some, andS, Option.bind_some, orS, Option.bind_some, andS, Option.bind_some, orS, Option.bind_some]
        have et : ((!(g l u).2.2.1) || ((!(g l u).2.2.2.1) && decide ((g l k).2.1 > 4)) || ((g l u).2.2.2.2.2.1 && !(g l k).2.2.2.2.2.1)) = !top (g l k) (g l u) := by
          unfold top
          rw [Bool.not_and, Bool.not_and, Bool.not_or, Bool.not_or]
          congr 1
          · congr 1
            congr 1
            rw [← decide_not]
            exact decide_eq_decide.2 (by show (g l k).2.1 > 4 ↔ ¬ (g l k).2.1 ≤ 4; omega)
          · rw [Bool.not_not, Bool.and_comm]; rfl
        rw [et]
        cases hT : top (g l k) (g l u) with
        | false =>
          right
          rw [if_pos (by rfl), Option.bind_some, lrKr]
          refine ⟨fun h => ?_, rfl⟩
          have := h.above (by omega)
          rw [hu', Int.toNat_natCast] at this
          rw [(top_iff _ _).2 ⟨this.1, this.2.1, this.2.2.1⟩] at hT
          cases hT
        | true =>
          obtain ⟨t1, t2, t3⟩ := (top_iff _ _).1 hT
          have hti : tiers l k = (if hub (g l k) then 1 else 0) + tiers l u := by
            have e : anc l k = u :: anc l u := by rw [har, hu', if_pos (by omega), Int.toNat_natCast]
            unfold tiers
            rw [e, List.length_cons, t1, if_pos rfl]; omega
          have hu200 : tiers l u ≤ 200 + 1 := by unfold tiers; have := hlen u; split <;> omega
          have hk200 : tiers l u ≤ 200 := by
            by_cases e : tiers l u ≤ 200
            · exact e
            · exfalso
              have h5 := hb u huk
              by_cases h0 : 0 ≤ up (g l u)
              · have := (h5.above h0).2.2.2; omega
              · have hau := anc_rec (by omega : l.length ≤ 200) (by omega : u < l.length) (fun j hj => (hU j (by omega)).1) (fun j hj => (hU j (by omega)).2)
                rw [if_neg h0] at hau
                unfold tiers at e
                rw [hau] at e
                simp at e
                split at e <;> omega
          rw [if_neg (by decide), idxD 0 (show u < ts.length by omega), Option.bind_some, idxD 0 (show k < ts.length by omega), Option.bind_some, Option.bind_some, lrKl, hI.old u huk, Int.toNat_natCast]
          obtain ⟨ts', e1, e2, e3⟩ := step2 (tiers l u) (ts.set k (tiers l u)) hk200 (by simp [hil]) (by rw [getD_set (by omega), if_pos rfl]) (fun j hj => by rw [getD_set (by omega), if_neg (by omega)]; exact hI.old j hj) (fun j hj => by rw [getD_set (by omega), if_neg (by omega)]; exact hI.new j (by omega)) hti
          rw [Int.toNat_natCast] at e3
          rw [e3, Option.bind_some, idxD 0 (show k < ts'.length by rw [e2.len]; omega), Option.bind_some, e1]
          by_cases h5 : tiers l k ≤ 5
          · left
            refine ⟨⟨hu, hp, hne, hsh, hfr, fun _ => by rw [hu', Int.toNat_natCast]; exact ⟨t1, t2, t3, h5⟩⟩, ts', e2, ?_⟩
            rw [if_neg (by rw [decide_eq_true_eq]; omega), ckS (by omega) (by omega), Option.bind_some, show ((k : Int) + 1) = ((k + 1 : Nat) : Int) by simp]
          · right
            refine ⟨fun h => h5 (h.above (by omega)).2.2.2, ?_⟩
            rw [if_pos (by rw [decide_eq_true_eq]; omega)]
    · right
      rw [show p25_l2 n ⟨l, cp⟩ k (g l k) n 0 = some (.inr 1) from h1, Option.bind_some, lrKr]
      exact ⟨fun h => h.free q hq1 hq2, rfl⟩
theorem p17_step {l : List It} {cp : Option Nat} (hl : l.length ≤ 127) {n m k : Nat} (hlt : k < l.length) {b : Bool} (h : p30 n ⟨l, cp⟩ k = some b) : p17_l1 n ⟨l, cp⟩ (m + 1) k = if b then p17_l1 n ⟨l, cp⟩ m ((k + 1 : Nat) : Int) else some (.inr 1) := by
  conv => lhs; unfold p17_l1
  rw [lenI_mk, if_pos (decide_eq_true (show (k : Int) < (l.length : Int) by omega)), h, Option.bind_some]
  cases b
  · rw [ifNot, if_neg (by decide)]
  · rw [if_neg (by decide), ckS (by omega) (by omega), Option.bind_some, if_pos rfl, show ((k : Int) + 1) = ((k + 1 : Nat) : Int) by simp]
theorem p17_end {l : List It} {cp : Option Nat} {n m k : Nat} (hlt : ¬ k < l.length) : p17_l1 n ⟨l, cp⟩ (m + 1) k = some (.inl ()) := by
  unfold p17_l1; rw [lenI_mk, if_neg (by rw [decide_eq_true_eq]; omega)]
theorem p25_end {l : List It} {cp : Option Nat} {n m k : Nat} (hlt : ¬ k < l.length) (ts : List Int) : p25_l1 n ⟨l, cp⟩ (m + 1) k ts = some (.inl ts) := by
  unfold p25_l1; rw [lenI_mk, if_neg (by rw [decide_eq_true_eq]; omega)]
theorem lock {l : List It} {cp : Option Nat} (hl : l.length ≤ 127) {n : Nat} (hn : 300 ≤ n) : ∀ (m k : Nat) (ts : List Int), k ≤ l.length → l.length - k < m → (∀ j, j < k → Ok l j) → Inv25 l k ts →
    (p17_l1 n ⟨l, cp⟩ m k = some (.inl ()) ∧ (∀ j, j < l.length → Ok l j) ∧ ∃ ts', p25_l1 n ⟨l, cp⟩ m k ts = some (.inl ts')) ∨ (p17_l1 n ⟨l, cp⟩ m k = some (.inr 1) ∧ p25_l1 n ⟨l, cp⟩ m k ts = some (.inr 1)) := by
  intro m
  induction m with
  | zero => intro k _ _ h; exact absurd h (by omega)
  | succ m ih =>
    intro k ts hk hm hb hI
    by_cases hlt : k < l.length
    · have h30 := p30_eq (cp := cp) (by omega : l.length ≤ 200) hlt hb hn
      rcases p25_round (cp := cp) hl hn hlt hb hI m with ⟨h1, ts', h2, h3⟩ | ⟨h1, h2⟩
      · rw [p17_step hl hlt (h30.1 h1), h3, if_pos rfl]
        refine ih (k + 1) ts' (by omega) (by omega) (fun j hj => ?_) h2
        by_cases e : j = k
        · subst e; exact h1
        · exact hb j (by omega)
      · right
        rw [p17_step hl hlt (h30.2 h1), h2, if_neg (by decide)]
        exact ⟨rfl, rfl⟩
    · left
      exact ⟨p17_end hlt, fun j hj => hb j (by omega), ts, p25_end hlt ts⟩
theorem check_eq (l : List It) (cp : Option Nat) : (Good l ∧ p17 6000 ⟨l, cp⟩ = some 0 ∧ p25 6000 ⟨l, cp⟩ = some 0) ∨ ∃ e, (e = 1 ∨ e = 3) ∧ p17 6000 ⟨l, cp⟩ = some e ∧ p25 6000 ⟨l, cp⟩ = some e := by
  unfold p17 p25
  rw [lenI_mk]
  by_cases hl : l.length ≤ 127
  · rw [if_neg (by rw [decide_eq_true_eq]; omega), if_neg (by rw [decide_eq_true_eq]; omega)]
    have hI : Inv25 l 0 (List.replicate 128 0) := ⟨by simp, fun j hj => absurd hj (by omega), fun j _ => by
      rw [List.getD_eq_getElem?_getD, List.getElem?_replicate]
      split <;> rfl⟩
    rcases lock (cp := cp) hl (n := 6000) (by decide) 6000 0 _ (Nat.zero_le _) (by omega) (fun j hj => absurd hj (by omega)) hI with ⟨h1, h2, ts', h3⟩ | ⟨h1, h2⟩
    · left
      rw [show p17_l1 6000 ⟨l, cp⟩ 6000 0 = _ from h1, show p25_l1 6000 ⟨l, cp⟩ 6000 0 _ = _ from h3]
      exact ⟨⟨hl, h2⟩, rfl, rfl⟩
    · right
      rw [show p17_l1 6000 ⟨l, cp⟩ 6000 0 = _ from h1, show p25_l1 6000 ⟨l, cp⟩ 6000 0 _ = _ from h2]
      exact ⟨1, .inl rfl, rfl, rfl⟩
  · right
    rw [if_pos (by rw [decide_eq_true_eq]; omega), if_pos (by rw [decide_eq_true_eq]; omega)]
    exact ⟨3, .inr rfl, rfl, rfl⟩
theorem p7_l1_ok (n : Nat) {x1 : Int} (hx : 0 ≤ x1 ∧ x1 ≤ 255) : ∀ (m k : Nat) (l : List It), (k : Int) ≤ x1 % 140 → (x1 % 140).toNat - k < m → l.length ≤ 20 + k → ∃ r, p7_l1 n x1 m k l = some r
  | 0, k, l, _, h, _ => absurd h (by omega)
  | m + 1, k, l, hk, hm, hl => by
    unfold p7_l1
    have h1 := Int.emod_lt_of_pos x1 (show (0 : Int) < 140 by decide)
    rw [remS hx.1 (by decide) (by omega), Option.bind_some]
    by_cases hlt : (k : Int) < x1 % 140
    · rw [if_pos (decide_eq_true hlt), appI_ok (by rw [List.length_singleton]; omega), Option.bind_some, ckS (by omega) (by omega), Option.bind_some, show ((k : Int) + 1) = ((k + 1 : Nat) : Int) by simp]
      exact p7_l1_ok n hx m (k + 1) _ (by omega) (by omega) (by rw [List.length_append, List.length_singleton]; omega)
    · rw [if_neg (by rw [decide_eq_true_eq]; exact hlt)]
      exact ⟨l, rfl⟩
theorem p7_law {x : Sl It} {more : Int} (F : Fine (.sl (.st (.pair (.int .i64) (.pair (.int .u8) (.pair .bool (.pair .bool (.pair .bool (.pair .bool (.int .i64)))))))) ) x) (G1 : InR .u8 more) : p7 6000 x more = some true := by
  unfold p7
  by_cases hc : lenI x > 20
  · rw [if_pos (decide_eq_true hc), lives, Option.bind_some]
  · have hx : x.xs.length ≤ 20 := by have : ¬ ((x.xs.length : Int) > 20) := hc; omega
    rw [if_neg (by rw [decide_eq_true_eq]; exact hc), appI_ok (by show 0 + x.xs.length ≤ _; omega), Option.bind_some, List.nil_append]
    have hm := inR_u8.1 G1
    obtain ⟨l, hl⟩ := p7_l1_ok 6000 hm 6000 0 x.xs (by have := Int.emod_nonneg more (show (140 : Int) ≠ 0 by decide); omega) (by have := Int.emod_lt_of_pos more (show (0 : Int) < 140 by decide); omega) (by omega)
    rw [show p7_l1 6000 more 6000 0 x.xs = some l from hl, Option.bind_some]
    rcases check_eq l .none with ⟨h, h1, h2⟩ | ⟨e, he, h1, h2⟩
    · rw [h2, Option.bind_some, h1, Option.bind_some, if_neg (by decide), p14_good h (by decide), Option.bind_some, p15_good h (by decide), Option.bind_some, p16_good h (by decide), Option.bind_some]
      rw [p20_good h (by decide), Option.bind_some]
      dsimp only
      rw [lenI_mk, lenI_mk, lenI_mk, tab_len, tab_len, lives]
      simp
    · have hne : (e != 0) = true := by rcases he with rfl | rfl <;> rfl
      have hee : (e != e) = false := by simp
      rw [h2, Option.bind_some, h1, Option.bind_some, hee, if_neg (by decide)]
      rw [show p14 6000 ⟨l, .none⟩ = some (⟨[], some 0⟩, e) by unfold p14; rw [h1, Option.bind_some, if_pos hne], Option.bind_some]
      rw [show p15 6000 ⟨l, .none⟩ = some (⟨[], some 0⟩, e) by unfold p15; rw [h1, Option.bind_some, if_pos hne], Option.bind_some]
      rw [show p16 6000 ⟨l, .none⟩ = some (⟨[], some 0⟩, e) by unfold p16; rw [h1, Option.bind_some, if_pos hne], Option.bind_some]
      rw [show p20 6000 ⟨l, .none⟩ = some (⟨[], some 0⟩, e) by unfold p20; rw [h1, Option.bind_some, if_pos hne], Option.bind_some]
      have e22 : ∀ i nd, p22 6000 ⟨l, .none⟩ i nd = some (false, e) := fun i nd => by unfold p22; rw [h1, Option.bind_some, if_pos hne]
      have e24 : p24 6000 ⟨l, .none⟩ 0 = some (0, e) := by
        unfold p24
        have : p24_l1 6000 ⟨l, .none⟩ 0 6000 500 = some (.inr (0, e)) := by
          show p24_l1 6000 ⟨l, .none⟩ 0 (5999 + 1) 500 = _
          unfold p24_l1
          rw [if_pos (by decide), e22, Option.bind_some]
          dsimp only
          rw [if_pos hne]
        rw [this]; rfl
      rw [e22, e24]
      dsimp only
      rw [hee]
      have he0 : (e == 0) = false := by rcases he with rfl | rfl <;> rfl
      rw [show (if false = false then some false else some true) = some false from rfl, Option.bind_some, show (if false = false then some false else some true) = some false from rfl, Option.bind_some, show (if false = false then some false else some true) = some false from rfl, Option.bind_some, if_neg (by decide), he0, if_neg (by decide), Option.bind_some, Option.bind_some, lives]
      rw [show (e == e) = true by simp]
      rfl
end Go.Proofs.Ytnelgpgmggcdcaa
