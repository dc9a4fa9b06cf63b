/- Powers in plain words: what an item takes if those below it that take too much are switched off. Plain theorems, no condition. -/
import Derived.Test.YtnelgpgmggcdcaaPP9
import Derived.Test.YtnelgpgmggcdcaaPc1
set_option linter.unusedVariables false
set_option linter.unusedSimpArgs false
namespace Go.Proofs.Ytnelgpgmggcdcaa
open Go.RowKit

theorem p21_l1_p10 (n : Nat) (x : Sl It) (i : Int) (mk : List Int) (rec_ : Sl It → Int → Option Int) : ∀ (m : Nat) (k acc : Int), p21_l1 n x i rec_ m k acc = p10_l1 n x i mk (fun x i _ => rec_ x i) m k acc
  | 0, _, _ => rfl
  | m + 1, k, acc => by
    unfold p21_l1 p10_l1
    simp only [p21_l1_p10 n x i mk rec_ m]
theorem p4_l5_p10 (n : Nat) (t : Sl It) (i : Int) (mk : List Int) : ∀ (m : Nat) (k acc : Int), p4_l5 n t i m k acc = p10_l1 n ⟨t.xs, t.cap⟩ i mk (fun x i _ => p21 n x i) m k acc
  | 0, _, _ => rfl
  | m + 1, k, acc => by
    unfold p4_l5 p10_l1
    simp only [p4_l5_p10 n t i mk m]
theorem p21_eq {l : List It} {cp : Option Nat} (h : WT l) : ∀ (f n i : Nat), i < l.length → l.length - i ≤ f → 400 + f ≤ n → p21 n ⟨l, cp⟩ i = some (T l (cphi l) i)
  | 0, n, i, hi, hf, _ => absurd hf (by omega)
  | f + 1, n, i, hi, hf, hn => by
    obtain ⟨n, rfl⟩ : ∃ k, n = k + 1 := ⟨n - 1, by omega⟩
    have hl := h.len
    show p21_b n (p21 n) ⟨l, cp⟩ i = _
    unfold p21_b
    rw [p26_eq h (by omega) hi, Option.bind_some, T_eq hl hi]
    cases hlit : lit l i with
    | false => rfl
    | true =>
      rw [if_pos rfl, show ((1 : Int) == 0) = false from rfl, if_neg (by decide), idx_g hi, Option.bind_some, p13_eq, Option.bind_some, ckS (by omega) (by omega), Option.bind_some, show ((i : Int) + 1) = ((i + 1 : Nat) : Int) by simp]
      have ho := own_ok h hi
      have key : p21_l1 n ⟨l, cp⟩ i (p21 n) n ((i + 1 : Nat) : Int) (own (g l i)) = some (raw l (cphi l) i) := by
        rw [p21_l1_p10 n _ _ []]
        unfold raw
        cases hs : self (g l i) with
        | true =>
          obtain ⟨q, rfl⟩ : ∃ k, n = k + 1 := ⟨n - 1, by omega⟩
          rw [p10_l1_self hi hs, if_pos rfl, Int.add_zero]
        | false =>
          have hk := kids_le h (cphi_ok l) (i := i) (a := i + 1) (n := l.length - (i + 1)) (by omega) (by omega)
          rw [p10_l1_eq hl hi hs n [] (fun x i _ => p21 n x i) (T l (cphi l)) (fun k h1 h2 _ => p21_eq h f n k h2 (by omega) (by omega)) (fun k h1 h2 => T_nonneg h (cphi_ok l) h2) n (i + 1) _ (by omega) (by omega) (by omega) (by omega) (by omega), if_neg (by decide)]
      rw [key, Option.bind_some, p11_eq h n hi, Option.bind_some, if_pos rfl]
      rw [show cphi l i (raw l (cphi l) i) = if raw l (cphi l) i > lim l i then 0 else raw l (cphi l) i from rfl]
      by_cases hc : raw l (cphi l) i > lim l i
      · rw [decide_eq_true hc, if_pos rfl]; exact (congrArg some (if_pos hc)).symm
      · rw [decide_eq_false hc, if_neg (by decide)]; exact (congrArg some (if_neg hc)).symm


theorem cphi_lphi (l : List It) (i : Nat) (s : Int) : cphi l i s = lphi true l i s := by
  unfold cphi lphi
  by_cases h : s > lim l i
  · rw [if_pos h, if_pos ⟨rfl, h⟩]
  · rw [if_neg h, if_neg fun k => h k.2]
theorem T_marked {l : List It} (h : WT l) {ts : List Int} {k : Nat} (hk : ∀ j, k ≤ j → j < l.length → (ts.getD j 0 = 1 ↔ ov true l j = true)) : ∀ (f j : Nat), j < l.length → l.length - j ≤ f → k ≤ j → T l (mphi ts) j = TL true l j ∧ raw l (mphi ts) j = raw l (lphi true l) j
  | 0, j, hj, hf, _ => absurd hf (by omega)
  | f + 1, j, hj, hf, hkj => by
    have hr : raw l (mphi ts) j = raw l (lphi true l) j := by
      unfold raw
      rw [sumP_congr (q := kid l j) (k := T l (lphi true l)) _ _ fun q a b => ⟨Iff.rfl, fun _ => (T_marked h hk f q (by omega) (by omega) (by omega)).1⟩]
    refine ⟨?_, hr⟩
    show _ = T l (lphi true l) j
    rw [T_eq h.len hj, T_eq h.len hj, hr]
    cases hl : lit l j with
    | false => rfl
    | true =>
      rw [if_pos rfl, if_pos rfl]
      unfold mphi lphi
      have hm := hk j hkj hj
      by_cases hc : raw l (lphi true l) j > lim l j
      · have : ov true l j = true := by unfold ov; rw [hl, decide_eq_true hc]; rfl
        rw [if_pos (hm.2 this)]
        exact (if_pos ⟨rfl, hc⟩).symm
      · have : ¬ ov true l j = true := by unfold ov; rw [hl, decide_eq_false hc]; decide
        rw [if_neg fun e => this (hm.1 e)]
        exact (if_neg fun e => hc e.2).symm
theorem getD_set' {ts : List Int} {k : Nat} (hk : k < ts.length) (v : Int) (j : Nat) : (ts.set k v).getD j 0 = if j = k then v else ts.getD j 0 := by
  rw [List.getD_eq_getElem?_getD, List.getD_eq_getElem?_getD, List.getElem?_set]
  by_cases h : k = j
  · subst h; rw [if_pos rfl, if_pos hk, if_pos rfl]; rfl
  · rw [if_neg h, if_neg fun e => h e.symm]
/-- Marks. -/
structure Mk4 (f : Nat → Bool) (ts : List Int) : Prop where
  len : ts.length = 128
  at_ : ∀ j, ts.getD j 0 = if f j then 1 else 0
theorem Mk4.set {f f' : Nat → Bool} {ts : List Int} (h : Mk4 f ts) {k : Nat} (hk : k < 128) {v : Int} (hv : v = if f' k then 1 else 0) (ho : ∀ j, j ≠ k → f' j = f j) : Mk4 f' (ts.set k v) :=
  ⟨by simp [h.len], fun j => by
    rw [getD_set' (by rw [h.len]; exact hk)]
    by_cases e : j = k
    · subst e; rw [if_pos rfl, hv]
    · rw [if_neg e, h.at_, ho j e]⟩
theorem Mk4.congr {f f' : Nat → Bool} {ts : List Int} (h : Mk4 f ts) (e : ∀ j, f' j = f j) : Mk4 f' ts := ⟨h.len, fun j => by rw [h.at_, e]⟩
theorem Mk4.idx {f : Nat → Bool} {ts : List Int} (h : Mk4 f ts) {k : Nat} (hk : k < 128) : idx ts (k : Int) = some (if f k then 1 else 0) := by
  rw [idxD 0 (by rw [h.len]; exact hk), h.at_]
def upF (l : List It) (k : Nat) (f : Nat → Bool) (j : Nat) : Bool := decide (k ≤ j) && decide (j < l.length) && f j
theorem p4_l1_ok {l : List It} {cp : Option Nat} (h : WT l) (h128 : l.length ≤ 128) {n : Nat} (hn : 600 ≤ n) : ∀ (k m : Nat) (ts : List Int), k ≤ l.length → k < m → Mk4 (upF l k (ov true l)) ts → ∃ ts', p4_l1 n ⟨l, cp⟩ m ((k : Int) - 1) ts = some ts' ∧ Mk4 (upF l 0 (ov true l)) ts' := by
  intro k
  induction k with
  | zero =>
    intro m ts _ hm hI
    obtain ⟨m, rfl⟩ : ∃ q, m = q + 1 := ⟨m - 1, by omega⟩
    unfold p4_l1
    rw [if_neg (by decide)]
    exact ⟨ts, rfl, hI⟩
  | succ k ih =>
    intro m ts hk hm hI
    obtain ⟨m, rfl⟩ : ∃ q, m = q + 1 := ⟨m - 1, by omega⟩
    have hkl : k < l.length := by omega
    have hlim := lim_ok l k
    have hT := T_marked (ts := ts) (k := k + 1) h (fun j a b => by
      rw [hI.at_]; unfold upF
      rw [decide_eq_true a, decide_eq_true b, Bool.true_and, Bool.true_and]
      cases ov true l j <;> simp)
    have hr : raw l (mphi ts) k = raw l (lphi true l) k := by
      unfold raw
      rw [sumP_congr (q := kid l k) (k := T l (lphi true l)) _ _ fun q a b => ⟨Iff.rfl, fun _ => (hT _ q (by omega) (Nat.le_refl _) (by omega)).1⟩]
    have hz : ts.getD k 0 = 0 := by
      rw [hI.at_]; unfold upF
      rw [decide_eq_false (by omega)]; rfl
    have hov : decide (T l (mphi ts) k > lim l k) = ov true l k := by
      rw [T_eq h.len hkl, hr]
      unfold ov mphi
      rw [hz]
      cases hl : lit l k with
      | false => rw [if_neg (by decide), Bool.false_and, decide_eq_false_iff_not]; omega
      | true => rw [if_pos rfl, Bool.true_and]; rfl
    unfold p4_l1
    rw [show ((k + 1 : Nat) : Int) - 1 = (k : Int) by omega, if_pos (decide_eq_true (show (k : Int) ≥ 0 by omega)), p10_eq h (by rw [hI.len]; exact h128) (l.length - k) n k hkl (Nat.le_refl _) (by omega), Option.bind_some, p11_eq h n hkl, Option.bind_some, hov]
    cases ho : ov true l k with
    | true =>
      rw [if_pos rfl, hI.idx (by omega), Option.bind_some, Option.bind_some, ckS (by omega) (by omega), Option.bind_some, Int.toNat_natCast]
      refine ih m _ (by omega) (by omega) (hI.set (by omega) (by unfold upF; rw [decide_eq_true (Nat.le_refl k), decide_eq_true hkl, ho]; rfl) fun j hj => ?_)
      unfold upF
      congr 2
      exact decide_eq_decide.2 (by omega)
    | false =>
      rw [if_neg (by decide), Option.bind_some, ckS (by omega) (by omega), Option.bind_some]
      refine ih m _ (by omega) (by omega) (hI.congr fun j => ?_)
      unfold upF
      by_cases e : j = k
      · subst e; rw [ho]; simp
      · congr 2
        exact decide_eq_decide.2 (by omega)
def midF (l : List It) (k : Nat) (j : Nat) : Bool := decide (j < l.length) && if j < k then cutB l j else ov true l j
theorem p4_l2_ok {l : List It} {cp : Option Nat} (h : WT l) (h128 : l.length ≤ 128) (n : Nat) : ∀ (m k : Nat) (ts : List Int), k ≤ l.length → l.length - k < m → Mk4 (midF l k) ts → ∃ ts', p4_l2 n ⟨l, cp⟩ m k (selF (cutB l) k) ts = some (selF (cutB l) l.length, ts') ∧ Mk4 (midF l l.length) ts' := by
  intro m
  induction m with
  | zero => intro k _ _ h; exact absurd h (by omega)
  | succ m ih =>
    intro k ts hk hm hI
    unfold p4_l2
    rw [lenI_mk]
    by_cases hlt : k < l.length
    · have hu := h.up1 k hlt
      have hmk : midF l k k = ov true l k := by unfold midF; rw [decide_eq_true hlt, if_neg (Nat.lt_irrefl k), Bool.true_and]
      rw [if_pos (decide_eq_true (show (k : Int) < (l.length : Int) by omega)), show idx (⟨l, cp⟩ : Sl It).xs (k : Int) = some (g l k) from idx_g hlt, Option.bind_some, Option.bind_some]
      have e1 : (if decide ((g l k).1 ≥ 0) = true then (idx ts (g l k).1).bind fun y_74 => some (y_74 == 1) else some false) = some (decide (0 ≤ up (g l k)) && cutB l (up (g l k)).toNat) := by
        rw [show (g l k).1 = up (g l k) from rfl]
        by_cases h0 : 0 ≤ up (g l k)
        · obtain ⟨u, hu'⟩ : ∃ u : Nat, up (g l k) = u := ⟨(up (g l k)).toNat, by omega⟩
          rw [if_pos (decide_eq_true h0), hu', hI.idx (by omega), Option.bind_some, Int.toNat_natCast, decide_eq_true (show (0 : Int) ≤ (u : Int) by omega), Bool.true_and]
          unfold midF
          rw [decide_eq_true (show u < l.length by omega), if_pos (show u < k by omega), Bool.true_and]
          cases cutB l u <;> rfl
        · rw [if_neg (by rw [decide_eq_true_eq]; exact h0), decide_eq_false h0]; rfl
      rw [e1, Option.bind_some]
      have hcut := cutB_eq h hlt
      have e2 : ∃ ts2, (if (decide (0 ≤ up (g l k)) && cutB l (up (g l k)).toNat) = true then (idx ts (k : Int)).bind fun y_78 => some (ts.set (k : Int).toNat 1) else some ts) = some ts2 ∧ Mk4 (midF l (k + 1)) ts2 := by
        have hmid : ∀ j, j ≠ k → midF l (k + 1) j = midF l k j := fun j hj => by
          unfold midF
          congr 1
          by_cases e : j < k
          · rw [if_pos e, if_pos (by omega)]
          · rw [if_neg e, if_neg (by omega)]
        have hmk1 : midF l (k + 1) k = cutB l k := by unfold midF; rw [decide_eq_true hlt, if_pos (by omega), Bool.true_and]
        cases hq : (decide (0 ≤ up (g l k)) && cutB l (up (g l k)).toNat) with
        | true =>
          rw [if_pos rfl, hI.idx (by omega), Option.bind_some, Int.toNat_natCast]
          exact ⟨_, rfl, hI.set (by omega) (by rw [hmk1, hcut, hq, Bool.or_true]; rfl) hmid⟩
        | false =>
          rw [if_neg (by decide)]
          refine ⟨_, rfl, hI.congr fun j => ?_⟩
          by_cases e : j = k
          · subst e; rw [hmk1, hmk, hcut, hq, Bool.or_false]
          · exact hmid j e
      obtain ⟨ts2, e2, hI2⟩ := e2
      have hmk1 : midF l (k + 1) k = cutB l k := by unfold midF; rw [decide_eq_true hlt, if_pos (by omega), Bool.true_and]
      rw [e2, Option.bind_some, hI2.idx (by omega), Option.bind_some, hmk1]
      have hs := selF_len (cutB l) k
      have e3 : (if ((if cutB l k = true then (1 : Int) else 0) == 1) = true then (appI (selF (cutB l) k) [(k : Int)]).bind fun l_92 => some l_92 else some (selF (cutB l) k)) = some (selF (cutB l) (k + 1)) := by
        rw [selF_succ]
        cases cutB l k
        · rw [if_neg (by decide), if_neg (by decide), List.append_nil]
        · rw [if_pos (by decide), if_pos rfl, appI_ok (by rw [List.length_singleton]; omega), Option.bind_some]
      rw [e3, Option.bind_some, ckS (by omega) (by omega), Option.bind_some, show ((k : Int) + 1) = ((k + 1 : Nat) : Int) by simp]
      exact ih (k + 1) ts2 (by omega) (by omega) hI2
    · obtain rfl : k = l.length := by omega
      rw [if_neg (by rw [decide_eq_true_eq]; show ¬ ((l.length : Int) < (l.length : Int)); omega)]
      exact ⟨ts, rfl, hI⟩
/-! ### The tree without what is cut -/
section
variable (f : Nat → Bool)
/-- The items below n that stay. -/
def stay (n : Nat) : List Nat := (List.range n).filter f
/-- How many stay below a. -/
def pos (a : Nat) : Nat := (stay f a).length
theorem stay_succ (n : Nat) : stay f (n + 1) = stay f n ++ if f n then [n] else [] := by
  unfold stay
  rw [List.range_succ, List.filter_append]
  congr 1
  cases h : f n <;> simp [List.filter_cons, h]
theorem pos_succ (n : Nat) : pos f (n + 1) = pos f n + if f n then 1 else 0 := by
  unfold pos
  rw [stay_succ, List.length_append]
  split <;> rfl
theorem pos_mono {a b : Nat} (h : a ≤ b) : pos f a ≤ pos f b := by
  induction b with
  | zero => obtain rfl : a = 0 := by omega
            exact Nat.le_refl _
  | succ b ih =>
    rw [pos_succ]
    by_cases e : a = b + 1
    · subst e; rw [pos_succ]; exact Nat.le_refl _
    · have := ih (by omega); omega
theorem stay_at {n a : Nat} (h : a < n) (ha : f a = true) : (stay f n)[pos f a]? = some a := by
  induction n with
  | zero => omega
  | succ n ih =>
    rw [stay_succ]
    by_cases e : a = n
    · subst e
      rw [ha, if_pos rfl]
      exact List.getElem?_concat_length
    · have := ih (by omega)
      rw [List.getElem?_append_left (List.getElem?_eq_some_iff.1 this).1]
      exact this
theorem stay_of {n c : Nat} (h : c < pos f n) : ∃ a, a < n ∧ f a = true ∧ pos f a = c := by
  induction n with
  | zero => exact absurd h (by simp [pos, stay])
  | succ n ih =>
    by_cases e : c < pos f n
    · obtain ⟨a, h1, h2⟩ := ih e
      exact ⟨a, by omega, h2⟩
    · rw [pos_succ] at h
      cases hf : f n with
      | true => rw [hf, if_pos rfl] at h; exact ⟨n, by omega, hf, by omega⟩
      | false => rw [hf, if_neg (by decide)] at h; omega
theorem pos_inj {a b : Nat} (ha : f a = true) (hb : f b = true) (h : pos f a = pos f b) : a = b := by
  rcases Nat.lt_trichotomy a b with e | e | e
  · have := pos_mono f (a := a + 1) (b := b) (by omega)
    rw [pos_succ, ha, if_pos rfl] at this; omega
  · exact e
  · have := pos_mono f (a := b + 1) (b := a) (by omega)
    rw [pos_succ, hb, if_pos rfl] at this; omega
theorem pos_lt {a b : Nat} (ha : f a = true) (h : a < b) : pos f a < pos f b := by
  have := pos_mono f (a := a + 1) (b := b) (by omega)
  rw [pos_succ, ha, if_pos rfl] at this; omega
theorem pos_le (a : Nat) : pos f a ≤ a := by
  induction a with
  | zero => simp [pos, stay]
  | succ a ih => rw [pos_succ]; split <;> omega
end
section
variable {l : List It}
def keepF (l : List It) (i : Nat) : Bool := !cutB l i
/-- An item of the tree without what is cut. -/
def rm (l : List It) (y : It) : It := if 0 ≤ up y then ((pos (keepF l) (up y).toNat : Int), port y, hub y, self y, ready y, sleep y, need y) else y
def restT (l : List It) (n : Nat) : List It := (stay (keepF l) n).map fun i => rm l (g l i)
theorem rm_rest (y : It) : port (rm l y) = port y ∧ hub (rm l y) = hub y ∧ self (rm l y) = self y ∧ ready (rm l y) = ready y ∧ sleep (rm l y) = sleep y ∧ need (rm l y) = need y := by
  unfold rm; split <;> exact ⟨rfl, rfl, rfl, rfl, rfl, rfl⟩
theorem rm_up (y : It) : up (rm l y) = if 0 ≤ up y then (pos (keepF l) (up y).toNat : Int) else up y := by
  unfold rm; split <;> rfl
theorem restT_len (n : Nat) : (restT l n).length = pos (keepF l) n := by simp [restT, pos]
theorem restT_at {a : Nat} (h : a < l.length) (ha : keepF l a = true) : g (restT l l.length) (pos (keepF l) a) = rm l (g l a) := by
  have h1 := stay_at (keepF l) h ha
  unfold g restT
  rw [List.getD_eq_getElem?_getD, List.getElem?_map, h1]
  rfl
theorem keep_up (h : WT l) {a : Nat} (ha : a < l.length) (hk : keepF l a = true) (h0 : 0 ≤ up (g l a)) : keepF l (up (g l a)).toNat = true := by
  unfold keepF at hk ⊢
  have := cutB_eq h ha
  cases hc : cutB l (up (g l a)).toNat
  · rfl
  · rw [hc, decide_eq_true h0, Bool.and_true, Bool.or_true] at this
    rw [this] at hk; cases hk
theorem rest_wt (h : WT l) : WT (restT l l.length) := by
  refine ⟨by rw [restT_len]; have := pos_le (keepF l) l.length; have := h.len; omega, fun i hi => ?_, fun i hi => ?_⟩
  all_goals
    rw [restT_len] at hi
    obtain ⟨a, h1, h2, rfl⟩ := stay_of (keepF l) hi
    rw [restT_at h1 h2]
  · have hu := h.up1 a h1
    rw [rm_up]
    split
    · rename_i h0
      have := pos_lt (keepF l) (keep_up h h1 h2 h0) (show (up (g l a)).toNat < a by omega)
      omega
    · omega
  · rw [(rm_rest _).2.2.2.2.2]; exact h.need1 a h1
theorem rest_anc (h : WT l) : ∀ (a : Nat), a < l.length → keepF l a = true → anc (restT l l.length) (pos (keepF l) a) = (anc l a).map (pos (keepF l)) ∧ ∀ q ∈ anc l a, keepF l q = true := by
  intro a
  induction a using Nat.strongRecOn with
  | ind a ih =>
    intro ha hk
    have hu := h.up1 a ha
    rw [anc_eq h ha, anc_eq (rest_wt h) (by rw [restT_len]; exact pos_lt _ hk ha), restT_at ha hk, rm_up]
    by_cases h0 : 0 ≤ up (g l a)
    · have hku := keep_up h ha hk h0
      have := ih (up (g l a)).toNat (by omega) (by omega) hku
      rw [if_pos h0, if_pos h0, if_pos (by omega), Int.toNat_natCast, this.1]
      exact ⟨rfl, fun q hq => by
        rcases List.mem_cons.1 hq with e | hq
        · rw [e]; exact hku
        · exact this.2 q hq⟩
    · rw [if_neg h0, if_neg h0, if_neg h0]
      exact ⟨rfl, fun q hq => by cases hq⟩
theorem rest_good (h : Good l) : Good (restT l l.length) := by
  have hw := h.wt
  refine ⟨by rw [restT_len]; have := pos_le (keepF l) l.length; have := h.len; omega, fun i hi => ?_⟩
  have hwr := rest_wt hw
  rw [restT_len] at hi
  obtain ⟨a, h1, h2, rfl⟩ := stay_of (keepF l) hi
  have o := h.ok a h1
  have hr := rm_rest (l := l) (g l a)
  have hlt : pos (keepF l) a < (restT l l.length).length := by rw [restT_len]; exact hi
  constructor
  · exact hwr.up1 _ hlt
  · rw [restT_at h1 h2, hr.1]; exact o.port1
  · exact hwr.need1 _ hlt
  · rw [restT_at h1 h2, hr.2.1, hr.2.2.1]; exact o.selfhub
  · intro k hk
    obtain ⟨b, h3, h4, rfl⟩ := stay_of (keepF l) (n := l.length) (c := k) (by omega)
    rw [restT_at h1 h2, restT_at h3 h4, hr.1, (rm_rest (l := l) (g l b)).1, rm_up, rm_up]
    have hba : b < a := by
      rcases Nat.lt_trichotomy a b with e | e | e
      · have := pos_lt (keepF l) h2 e; omega
      · subst e; omega
      · exact e
    rintro ⟨e1, e2⟩
    refine o.free b hba ⟨?_, e2⟩
    have ua := hw.up1 a h1
    have ub := hw.up1 b h3
    by_cases hb0 : 0 ≤ up (g l b)
    · by_cases ha0 : 0 ≤ up (g l a)
      · rw [if_pos hb0, if_pos ha0] at e1
        have := pos_inj (keepF l) (keep_up hw h3 h4 hb0) (keep_up hw h1 h2 ha0) (by omega)
        omega
      · rw [if_pos hb0, if_neg ha0] at e1; omega
    · by_cases ha0 : 0 ≤ up (g l a)
      · rw [if_neg hb0, if_pos ha0] at e1; omega
      · omega
  · intro h0
    rw [restT_at h1 h2, rm_up] at h0
    have ha0 : 0 ≤ up (g l a) := by
      by_cases e : 0 ≤ up (g l a)
      · exact e
      · rw [if_neg e] at h0; exact h0
    have hu := hw.up1 a h1
    have hku := keep_up hw h1 h2 ha0
    rw [restT_at h1 h2, rm_up, if_pos ha0, Int.toNat_natCast, restT_at (by omega) hku, hr.1, hr.2.2.2.2.1, (rm_rest (l := l) (g l (up (g l a)).toNat)).2.1, (rm_rest (l := l) (g l (up (g l a)).toNat)).2.2.1, (rm_rest (l := l) (g l (up (g l a)).toNat)).2.2.2.2.1]
    have ht : tiers (restT l l.length) (pos (keepF l) a) = tiers l a := by
      unfold tiers
      rw [(rest_anc hw a h1 h2).1, List.length_map, restT_at h1 h2, hr.2.1]
    rw [ht]
    exact o.above ha0
theorem rest_lit (h : WT l) {a : Nat} (ha : a < l.length) (hk : keepF l a = true) : lit (restT l l.length) (pos (keepF l) a) = lit l a := by
  have hr := rest_anc h a ha hk
  unfold lit
  rw [hr.1, List.all_map]
  have : ∀ q ∈ anc l a, ((fun k => ready (g (restT l l.length) k)) ∘ pos (keepF l)) q = ready (g l q) := fun q hq => by
    show ready (g (restT l l.length) (pos (keepF l) q)) = _
    have := anc_lt h a ha q hq
    rw [restT_at (by omega) (hr.2 q hq), (rm_rest _).2.2.2.1]
  generalize anc l a = ks at this
  induction ks with
  | nil => rfl
  | cons q ks ih => rw [List.all_cons, List.all_cons, this q (by simp), ih fun x hx => this x (by simp [hx])]
theorem rest_lim (h : WT l) {a : Nat} (ha : a < l.length) (hk : keepF l a = true) : lim (restT l l.length) (pos (keepF l) a) = lim l a := by
  have hu := h.up1 a ha
  unfold lim poor
  rw [restT_at ha hk, rm_up]
  by_cases h0 : 0 ≤ up (g l a)
  · rw [if_pos h0, Int.toNat_natCast, restT_at (by omega) (keep_up h ha hk h0), (rm_rest _).2.2.1, decide_eq_true h0, decide_eq_true (by omega)]
  · rw [if_neg h0, decide_eq_false h0]; rfl
theorem sum_rest {P : Nat → Prop} [DecidablePred P] {P' : Nat → Prop} [DecidablePred P'] {H H' : Nat → Int} (f : Nat → Bool) : ∀ (n a : Nat), (∀ j, a ≤ j → j < a + n → f j = true → (P' (pos f j) ↔ P j) ∧ H' (pos f j) = H j) → (∀ j, a ≤ j → j < a + n → f j = false → P j → H j = 0) → sumP P' H' (pos f (a + n) - pos f a) (pos f a) = sumP P H n a
  | 0, a, _, _ => by rw [Nat.add_zero, Nat.sub_self]; rfl
  | n + 1, a, h1, h2 => by
    have ih := sum_rest (P := P) (P' := P') (H := H) (H' := H') f n (a + 1) (fun j x y => h1 j (by omega) (by omega)) (fun j x y => h2 j (by omega) (by omega))
    rw [show a + 1 + n = a + (n + 1) by omega] at ih
    rw [sumP_some]
    cases hf : f a with
    | true =>
      have e : pos f (a + 1) = pos f a + 1 := by rw [pos_succ, hf, if_pos rfl]
      have hle := pos_mono f (a := a + 1) (b := a + (n + 1)) (by omega)
      rw [show pos f (a + (n + 1)) - pos f a = (pos f (a + (n + 1)) - pos f (a + 1)) + 1 by omega, sumP_some, ← ih, e]
      obtain ⟨x, y⟩ := h1 a (Nat.le_refl _) (by omega) hf
      by_cases hp : P a
      · rw [if_pos (x.2 hp), if_pos hp, y]
      · rw [if_neg fun q => hp (x.1 q), if_neg hp]
    | false =>
      have e : pos f (a + 1) = pos f a := by rw [pos_succ, hf, if_neg (by decide), Nat.add_zero]
      rw [e] at ih
      rw [ih]
      by_cases hp : P a
      · rw [if_pos hp, h2 a (Nat.le_refl _) (by omega) hf hp, Int.zero_add]
      · rw [if_neg hp, Int.zero_add]
theorem rest_T (h : WT l) : ∀ (f a : Nat), a < l.length → l.length - a ≤ f → keepF l a = true → TL false (restT l l.length) (pos (keepF l) a) = TL true l a ∧ raw (restT l l.length) (lphi false (restT l l.length)) (pos (keepF l) a) = raw l (lphi true l) a
  | 0, a, ha, hf, _ => absurd hf (by omega)
  | f + 1, a, ha, hf, hk => by
    have hwr := rest_wt h
    have hr := rm_rest (l := l) (g l a)
    have hplt : pos (keepF l) a < (restT l l.length).length := by rw [restT_len]; exact pos_lt _ hk ha
    have hraw : raw (restT l l.length) (lphi false (restT l l.length)) (pos (keepF l) a) = raw l (lphi true l) a := by
      unfold raw
      rw [restT_at ha hk, hr.2.2.1]
      have ho : own (rm l (g l a)) = own (g l a) := by unfold own; rw [hr.2.2.2.2.1, hr.2.2.2.1, hr.2.2.2.2.2]
      rw [ho]
      congr 1
      have hs := sum_rest (P := kid l a) (P' := kid (restT l l.length) (pos (keepF l) a)) (H := T l (lphi true l)) (H' := T (restT l l.length) (lphi false (restT l l.length))) (keepF l) (l.length - (a + 1)) (a + 1) (fun j x y hj => ⟨by
          show up (g (restT l l.length) (pos (keepF l) j)) = _ ↔ up (g l j) = _
          have hu := h.up1 j (by omega)
          rw [restT_at (by omega) hj, rm_up]
          by_cases h0 : 0 ≤ up (g l j)
          · rw [if_pos h0]
            constructor
            · intro e
              have := pos_inj (keepF l) (keep_up h (by omega) hj h0) hk (by omega)
              omega
            · intro e; rw [e, Int.toNat_natCast]
          · rw [if_neg h0]
            constructor <;> intro e <;> omega, (rest_T h f j (by omega) (by omega) hj).1⟩) (fun j x y hj hp => by
          have hp : up (g l j) = (a : Int) := hp
          have hc := cutB_eq h (show j < l.length by omega)
          have hcj : cutB l j = true := by unfold keepF at hj; simpa using hj
          have hca : cutB l a = false := by unfold keepF at hk; simpa using hk
          rw [hp, Int.toNat_natCast, hca, Bool.and_false, Bool.or_false, hcj] at hc
          rw [T_eq h.len (by omega)]
          unfold ov at hc
          have hc2 := Bool.and_eq_true_iff.1 hc.symm
          rw [hc2.1, if_pos rfl]
          unfold lphi
          exact if_pos ⟨rfl, of_decide_eq_true hc2.2⟩)
      rw [show a + 1 + (l.length - (a + 1)) = l.length by omega, show pos (keepF l) (a + 1) = pos (keepF l) a + 1 by rw [pos_succ, hk, if_pos rfl]] at hs
      rw [restT_len, hs]
    refine ⟨?_, hraw⟩
    show T _ _ _ = T _ _ _
    rw [T_eq hwr.len hplt, T_eq h.len ha, rest_lit h ha hk, hraw, lphi_false]
    cases hl : lit l a with
    | false => rfl
    | true =>
      rw [if_pos rfl, if_pos rfl, show lphi true l a (raw l (lphi true l) a) = if true = true ∧ raw l (lphi true l) a > lim l a then 0 else raw l (lphi true l) a from rfl]
      refine (if_neg fun e => ?_).symm
      have hc := cutB_eq h ha
      have hca : cutB l a = false := by unfold keepF at hk; simpa using hk
      have : ov true l a = true := by unfold ov; rw [hl, decide_eq_true e.2]; rfl
      rw [this, Bool.true_or, hca] at hc
      cases hc
theorem rest_over (h : WT l) {i : Nat} (hi : i < (restT l l.length).length) : ov false (restT l l.length) i = false := by
  rw [restT_len] at hi
  obtain ⟨a, h1, h2, rfl⟩ := stay_of (keepF l) hi
  unfold ov
  rw [rest_lit h h1 h2, rest_lim h h1 h2, (rest_T h _ a h1 (Nat.le_refl _) h2).2]
  have hc := cutB_eq h h1
  have hca : cutB l a = false := by unfold keepF at h2; simpa using h2
  rw [hca] at hc
  have := (Bool.or_eq_false_iff.1 hc.symm).1
  exact this
end
theorem selF_none {f : Nat → Bool} {n : Nat} (h : ∀ i, i < n → f i = false) : selF f n = [] := by
  unfold selF
  rw [List.filter_eq_nil_iff.2 fun a ha => by rw [h a (List.mem_range.1 ha)]; decide]
  rfl
theorem p4_l3_ok {l : List It} {cp : Option Nat} (h : WT l) (h128 : l.length ≤ 128) (n : Nat) {w : List Int} {mk : List Int} (hm : Mk4 (midF l l.length) mk) : ∀ (m k : Nat) (ats : List Int), k ≤ l.length → l.length - k < m → ats.length = 128 → (∀ j, j < k → keepF l j = true → ats.getD j 0 = (pos (keepF l) j : Int)) → ∃ ats', p4_l3 n ⟨l, cp⟩ (w, mk) m k (restT l k) ats = some (restT l l.length, ats') := by
  intro m
  induction m with
  | zero => intro k _ _ h; exact absurd h (by omega)
  | succ m ih =>
    intro k ats hk hm2 ha hat
    unfold p4_l3
    rw [lenI_mk]
    by_cases hlt : k < l.length
    · have hu := h.up1 k hlt
      have hmk : midF l l.length k = cutB l k := by unfold midF; rw [decide_eq_true hlt, if_pos hlt, Bool.true_and]
      have ckk : ckI .i64 ((k : Int) + 1) = some ((k + 1 : Nat) : Int) := by rw [ckS (by omega) (by omega)]; simp
      rw [if_pos (decide_eq_true (show (k : Int) < (l.length : Int) by omega)), hm.idx (by omega), Option.bind_some, hmk, ckk]
      have hst : restT l (k + 1) = restT l k ++ if keepF l k then [rm l (g l k)] else [] := by
        unfold restT
        rw [stay_succ, List.map_append]
        cases keepF l k <;> simp
      cases hc : cutB l k with
      | true =>
        have hkp : keepF l k = false := by unfold keepF; rw [hc]; rfl
        rw [hkp, if_neg (by decide), List.append_nil] at hst
        rw [if_pos (by rfl), Option.bind_some, ← hst]
        refine ih (k + 1) ats (by omega) (by omega) ha fun j hj hkj => ?_
        by_cases e : j = k
        · subst e; rw [hkp] at hkj; cases hkj
        · exact hat j (by omega) hkj
      | false =>
        have hkp : keepF l k = true := by unfold keepF; rw [hc]; rfl
        rw [hkp, if_pos rfl] at hst
        rw [if_neg (by decide), show idx (⟨l, cp⟩ : Sl It).xs (k : Int) = some (g l k) from idx_g hlt, Option.bind_some]
        have ej : (if decide ((g l k).1 ≥ 0) = true then (idx ats (g l k).1).bind fun y_160 => some (y_160, (g l k).2.1, (g l k).2.2.1, (g l k).2.2.2.1, (g l k).2.2.2.2.1, (g l k).2.2.2.2.2.1, (g l k).2.2.2.2.2.2) else some (g l k)) = some (rm l (g l k)) := by
          rw [show (g l k).1 = up (g l k) from rfl]
          unfold rm
          by_cases h0 : 0 ≤ up (g l k)
          · obtain ⟨u, hu'⟩ : ∃ u : Nat, up (g l k) = u := ⟨(up (g l k)).toNat, by omega⟩
            have hku := keep_up h hlt hkp h0
            rw [hu', Int.toNat_natCast] at hku
            rw [if_pos (decide_eq_true h0), if_pos h0, hu', idxD 0 (show u < ats.length by omega), Option.bind_some, Int.toNat_natCast, hat u (by omega) hku]
            rfl
          · rw [if_neg (by rw [decide_eq_true_eq]; exact h0), if_neg h0]
        rw [ej, Option.bind_some, idxD 0 (show k < ats.length by omega), Option.bind_some]
        have hrl : (restT l k).length ≤ k := by rw [restT_len]; exact pos_le _ _
        rw [appI_ok (by rw [List.length_singleton]; omega), Option.bind_some, Option.bind_some, lenI_mk, restT_len, Int.toNat_natCast, ← hst]
        refine ih (k + 1) _ (by omega) (by omega) (by simp [ha]) fun j hj hkj => ?_
        rw [getD_set' (by omega)]
        by_cases e : j = k
        · subst e; rw [if_pos rfl]
        · rw [if_neg e]; exact hat j (by omega) hkj
    · obtain rfl : k = l.length := by omega
      rw [if_neg (by rw [decide_eq_true_eq]; show ¬ ((l.length : Int) < (l.length : Int)); omega)]
      exact ⟨ats, rfl⟩
theorem p4_l4_ok {l : List It} {cp : Option Nat} (h : WT l) (h128 : l.length ≤ 128) {n : Nat} (hn : 600 ≤ n) {c : Option Nat} {e0 : Int} {d : List Int} (hd : ∀ (j : Nat) (q : Int), d[j]? = some q → ∃ a : Nat, q = a ∧ a < l.length ∧ cutB l a = true) (hdl : d.length ≤ 200) : ∀ (m k : Nat) (ts : List Int), k ≤ d.length → d.length - k < m → Mk4 (midF l l.length) ts → ∃ ts', p4_l4 n ⟨l, cp⟩ (⟨d, c⟩, e0) m k ts = some (.inl ts') := by
  intro m
  induction m with
  | zero => intro k _ _ h; exact absurd h (by omega)
  | succ m ih =>
    intro k ts hk hm hI
    unfold p4_l4
    rw [lenI_mk]
    by_cases hlt : k < d.length
    · obtain ⟨q, hq⟩ : ∃ q, d[k]? = some q := ⟨_, List.getElem?_eq_getElem hlt⟩
      obtain ⟨a, rfl, ha, hca⟩ := hd k q hq
      have hu := h.up1 a ha
      have hma : ∀ j, j < l.length → midF l l.length j = cutB l j := fun j hj => by unfold midF; rw [decide_eq_true hj, if_pos hj, Bool.true_and]
      have ckk : ckI .i64 ((k : Int) + 1) = some ((k + 1 : Nat) : Int) := by rw [ckS (by omega) (by omega)]; simp
      rw [if_pos (decide_eq_true (show (k : Int) < (d.length : Int) by omega)), show idx (⟨d, c⟩ : Sl Int).xs (k : Int) = some (a : Int) by rw [idx_nat, hq], Option.bind_some, ckk]
      rw [show idx (⟨l, cp⟩ : Sl It).xs (a : Int) = some (g l a) from idx_g ha, Option.bind_some, Option.bind_some]
      have e1 : (if decide ((g l a).1 ≥ 0) = true then (idx ts (g l a).1).bind fun y_224 => some (y_224 == 1) else some false) = some (decide (0 ≤ up (g l a)) && cutB l (up (g l a)).toNat) := by
        rw [show (g l a).1 = up (g l a) from rfl]
        by_cases h0 : 0 ≤ up (g l a)
        · obtain ⟨u, hu'⟩ : ∃ u : Nat, up (g l a) = u := ⟨(up (g l a)).toNat, by omega⟩
          rw [if_pos (decide_eq_true h0), hu', hI.idx (by omega), Option.bind_some, Int.toNat_natCast, decide_eq_true (show (0 : Int) ≤ (u : Int) by omega), Bool.true_and, hma u (by omega)]
          cases cutB l u <;> rfl
        · rw [if_neg (by rw [decide_eq_true_eq]; exact h0), decide_eq_false h0]; rfl
      rw [e1, Option.bind_some]
      have hcut := cutB_eq h ha
      cases hq2 : (decide (0 ≤ up (g l a)) && cutB l (up (g l a)).toNat) with
      | true => rw [if_pos rfl, Option.bind_some]; exact ih (k + 1) ts (by omega) (by omega) hI
      | false =>
        rw [hq2, Bool.or_false, hca] at hcut
        have hov := Bool.and_eq_true_iff.1 (show (lit l a && decide (raw l (lphi true l) a > lim l a)) = true from hcut.symm)
        rw [if_neg (by decide), hI.idx (by omega), Option.bind_some, Option.bind_some, p13_eq, Option.bind_some, ckS (show -9223372036854775808 ≤ (a : Int) + 1 by omega) (by omega), Option.bind_some, p4_l5_p10 n _ _ []]
        have hraw : raw l (cphi l) a = raw l (lphi true l) a := raw_congr h.len fun j s _ _ => cphi_lphi l j s
        have ho := own_ok h ha
        have key : p10_l1 n ⟨l, cp⟩ a [] (fun x i _ => p21 n x i) n ((a : Int) + 1) (own (g l a)) = some (raw l (cphi l) a) := by
          rw [show ((a : Int) + 1) = ((a + 1 : Nat) : Int) by simp]
          unfold raw
          cases hs : self (g l a) with
          | true =>
            obtain ⟨q, rfl⟩ : ∃ k, n = k + 1 := ⟨n - 1, by omega⟩
            rw [p10_l1_self ha hs, if_pos rfl, Int.add_zero]
          | false =>
            have hk := kids_le h (cphi_ok l) (i := a) (a := a + 1) (n := l.length - (a + 1)) (by omega) (by omega)
            rw [p10_l1_eq h.len ha hs n [] (fun x i _ => p21 n x i) (T l (cphi l)) (fun k h1 h2 _ => p21_eq h (l.length - k) n k h2 (Nat.le_refl _) (by omega)) (fun k h1 h2 => T_nonneg h (cphi_ok l) h2) n (a + 1) _ (by omega) (by omega) (by omega) (by omega) (by omega), if_neg (by decide)]
        rw [key, Option.bind_some, hraw]
        have hI2 : Mk4 (fun j => if j = a then false else midF l l.length j) (ts.set a 0) := hI.set (by omega) (by simp) fun j hj => by simp [hj]
        rw [Int.toNat_natCast, hI2.idx (by omega), Option.bind_some, p11_eq h n ha, Option.bind_some, if_neg (by rw [decide_eq_true_eq]; have := of_decide_eq_true hov.2; omega), Option.bind_some]
        refine ih (k + 1) _ (by omega) (by omega) (hI2.set (by omega) (by rw [hma a ha, hca]; rfl) fun j hj => by simp [hj])
    · rw [if_neg (by rw [decide_eq_true_eq]; omega)]
      exact ⟨ts, rfl⟩
theorem selF_mem {f : Nat → Bool} {n j : Nat} {q : Int} (h : (selF f n)[j]? = some q) : ∃ a : Nat, q = a ∧ a < n ∧ f a = true := by
  have := List.mem_of_getElem? h
  unfold selF at this
  obtain ⟨a, ha, rfl⟩ := List.mem_map.1 this
  obtain ⟨h1, h2⟩ := List.mem_filter.1 ha
  exact ⟨a, rfl, List.mem_range.1 h1, h2⟩
theorem p4_law {x : Sl (Int × Int × Int × Int)} (F : Fine (.sl (.st (.pair (.int .u8) (.pair (.int .u8) (.pair (.int .u8) (.int .u16)))))) x) : p4 6000 x = some true := by
  obtain ⟨l, h1, h, h40⟩ := p9_ok (n := 6000) (by decide) (In9_of F)
  have hw := h.wt
  unfold p4
  rw [h1, Option.bind_some]
  dsimp only
  rw [lenI_mk, ckS (by omega) (by omega), Option.bind_some]
  have hM0 : Mk4 (upF l l.length (ov true l)) (List.replicate 128 0) := ⟨by simp, fun j => by
    rw [List.getD_eq_getElem?_getD, List.getElem?_replicate]
    have : upF l l.length (ov true l) j = false := by
      unfold upF
      by_cases e : l.length ≤ j
      · rw [decide_eq_false (show ¬ j < l.length by omega), Bool.and_false, Bool.false_and]
      · rw [decide_eq_false e]; rfl
    rw [this]; split <;> rfl⟩
  obtain ⟨t1, e1, m1⟩ := p4_l1_ok (cp := .none) hw (by omega) (n := 6000) (by decide) l.length 6000 _ (Nat.le_refl _) (by omega) hM0
  rw [e1, Option.bind_some]
  have m1' : Mk4 (midF l 0) t1 := m1.congr fun j => by
    unfold midF upF
    rw [decide_eq_true (Nat.zero_le j), Bool.true_and, if_neg (Nat.not_lt_zero j)]
  obtain ⟨t2, e2, m2⟩ := p4_l2_ok (cp := .none) hw (by omega) 6000 6000 0 t1 (Nat.zero_le _) (by omega) m1'
  rw [show p4_l2 6000 ⟨l, .none⟩ 6000 0 [] t1 = _ from e2, Option.bind_some, p20_good h (by decide), Option.bind_some]
  have hsl := selF_len (cutB l) l.length
  dsimp only
  rw [p18_same (by decide) rfl (by omega) _ rfl, Option.bind_some, show (if ((0 : Int) != 0) = false then some (!true) else some true) = some false from rfl, Option.bind_some, if_neg (by decide)]
  obtain ⟨t3, e3⟩ := p4_l3_ok (cp := .none) hw (by omega) 6000 (w := selF (cutB l) l.length) m2 6000 0 (List.replicate 128 0) (Nat.zero_le _) (by omega) (by simp) (fun j hj => absurd hj (by omega))
  rw [show p4_l3 6000 ⟨l, .none⟩ (selF (cutB l) l.length, t2) 6000 0 [] (List.replicate 128 0) = _ from e3, Option.bind_some, p16_good (rest_good h) (by decide), Option.bind_some]
  rw [selF_none fun i hi => rest_over hw hi]
  dsimp only
  rw [show (if ((0 : Int) != 0) = false then some (lenI (⟨[], some ([] : List Int).length⟩ : Sl Int) != 0) else some true) = some false from rfl, Option.bind_some, if_neg (by decide)]
  obtain ⟨t4, e4⟩ := p4_l4_ok (cp := .none) hw (by omega) (n := 6000) (by decide) (c := some (selF (cutB l) l.length).length) (e0 := 0) (d := selF (cutB l) l.length) (fun j q hq => selF_mem hq) (by omega) 6000 0 t2 (Nat.zero_le _) (by omega) m2
  rw [show p4_l4 6000 ⟨l, .none⟩ (⟨selF (cutB l) l.length, some (selF (cutB l) l.length).length⟩, 0) 6000 0 t2 = _ from e4, Option.bind_some, lrKl, lives]
  rfl
end Go.Proofs.Ytnelgpgmggcdcaa
