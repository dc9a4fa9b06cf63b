/- Suspends in plain words: taking out, and a frame that passes. Plain theorems, no condition. -/
import Derived.Test.YtflieonbbggmhaaSU4
set_option linter.unusedVariables false
set_option linter.unusedSimpArgs false
namespace Go.Proofs.Ytflieonbbggmhaa
open Go.RowKit

/-- A node that stays when a path is taken out. -/
def keepN (p : List Int) (x : Nd) : Bool := !(decide (pa x = p) || decide (thr (pa x) p))
theorem p35_eq {n : Nat} (hn : 300 ≤ n) (x : Nd) {p : Sl Int} (hp : p.xs.length ≤ 200) : p35 n x p = some (!keepN p.xs x) := by
  unfold p35
  rw [p36_eq hn _ _ (.inr hp), Option.bind_some, p37_eq hn _ _ hp, Option.bind_some, orS, Option.bind_some]
  unfold keepN
  rw [Bool.not_not]; rfl
theorem p45_35_l1_eq {n : Nat} (hn : 300 ≤ n) {l : List Nd} {c : Option Nat} {p : Sl Int} (hl : l.length ≤ 200) (hp : p.xs.length ≤ 200) : ∀ (m k : Nat), k ≤ l.length → l.length - k < m →
    (p45_35_l1 n ⟨l, c⟩ p m k = some (.inl ()) ∧ ∀ x ∈ l.drop k, keepN p.xs x = true) ∨ ∃ (j : Nat) (h : j < l.length), k ≤ j ∧ p45_35_l1 n ⟨l, c⟩ p m k = some (.inr (j : Int)) ∧ keepN p.xs l[j] = false ∧ ∀ i (hi : i < l.length), k ≤ i → i < j → keepN p.xs l[i] = true := by
  intro m
  induction m with
  | zero => intro k _ h; exact absurd h (by omega)
  | succ m ih =>
    intro k hk hm
    unfold p45_35_l1
    rw [lenI_mk]
    by_cases hlt : k < l.length
    · rw [if_pos (decide_eq_true (show (k : Int) < (l.length : Int) by omega)), show idx (⟨l, c⟩ : Sl Nd).xs (k : Int) = some l[k] from idxE hlt, Option.bind_some, p35_eq hn _ hp, Option.bind_some]
      cases e : keepN p.xs l[k] with
      | false =>
        right
        rw [if_pos (by rfl)]
        exact ⟨k, hlt, Nat.le_refl _, rfl, e, fun i _ h1 h2 => by omega⟩
      | true =>
        rw [if_neg (by decide), ckS (by omega) (by omega), Option.bind_some, castS, drop_cons hlt]
        rcases ih (k + 1) (by omega) (by omega) with ⟨h1, h2⟩ | ⟨j, hj, h1, h2, h3, h4⟩
        · exact .inl ⟨h1, List.forall_mem_cons.2 ⟨e, h2⟩⟩
        · refine .inr ⟨j, hj, by omega, h2, h3, fun i hi a b => ?_⟩
          by_cases q : i = k
          · subst q; exact e
          · exact h4 i hi (by omega) b
    · left
      rw [if_neg (by rw [decide_eq_true_eq]; omega), List.drop_eq_nil_of_le (by omega)]
      exact ⟨rfl, fun x hx => by cases hx⟩
theorem p34_l1_eq {n : Nat} (hn : 300 ≤ n) {L : List Nd} {c : Option Nat} {p : Sl Int} (hl : L.length ≤ 200) (hp : p.xs.length ≤ 200) : ∀ (m j : Nat) (G : List Nd), j ≤ L.length → L.length - j < m → ((L.take j).filter (keepN p.xs)).length + G.length = j →
    ∃ G', p34_35_l1 n ⟨L, c⟩ p m j (((L.take j).filter (keepN p.xs)).length : Int) ((L.take j).filter (keepN p.xs) ++ G ++ L.drop j) = some (L.filter (keepN p.xs) ++ G', ((L.filter (keepN p.xs)).length : Int)) ∧ (L.filter (keepN p.xs)).length + G'.length = L.length := by
  intro m
  induction m with
  | zero => intro j G _ h; exact absurd h (by omega)
  | succ m ih =>
    intro j G hj hm hG
    have hlen : ((L.take j).filter (keepN p.xs) ++ G ++ L.drop j).length = L.length := by simp; omega
    have hfl : ((L.take j).filter (keepN p.xs)).length ≤ j := by omega
    unfold p34_35_l1
    rw [lenI_mk, hlen]
    by_cases hlt : j < L.length
    · have hcur : idx ((L.take j).filter (keepN p.xs) ++ G ++ L.drop j) (j : Int) = some L[j] := by
        rw [idx_nat, List.getElem?_append_right (by simp; omega), List.getElem?_drop]
        rw [show j + (j - ((L.take j).filter (keepN p.xs) ++ G).length) = j by rw [List.length_append]; omega, List.getElem?_eq_getElem hlt]
      rw [if_pos (decide_eq_true (show (j : Int) < (L.length : Int) by omega)), hcur, Option.bind_some, p35_eq hn _ hp, Option.bind_some, Bool.not_not]
      have hft : (L.take (j + 1)).filter (keepN p.xs) = (L.take j).filter (keepN p.xs) ++ if keepN p.xs L[j] then [L[j]] else [] := by
        rw [List.take_succ_eq_append_getElem hlt, List.filter_append]
        congr 1
        cases hk : keepN p.xs L[j] <;> simp [List.filter_cons, hk]
      cases hk : keepN p.xs L[j] with
      | true =>
        rw [hk, if_pos rfl] at hft
        have hidx : ∃ z, idx ((L.take j).filter (keepN p.xs) ++ G ++ L.drop j) (((L.take j).filter (keepN p.xs)).length : Int) = some z := ⟨_, idxE (by omega)⟩
        obtain ⟨z, hz⟩ := hidx
        rw [if_pos rfl, hz, Option.bind_some, ckS (by omega) (by omega), Option.bind_some, Option.bind_some, ckS (by omega) (by omega), Option.bind_some, castS, castS, Int.toNat_natCast]
        have hset : ∃ G2, ((L.take j).filter (keepN p.xs) ++ G ++ L.drop j).set ((L.take j).filter (keepN p.xs)).length L[j] = (L.take (j + 1)).filter (keepN p.xs) ++ G2 ++ L.drop (j + 1) ∧ G2.length = G.length := by
          rw [hft]
          cases G with
          | nil =>
            refine ⟨[], ?_, rfl⟩
            rw [List.append_nil, drop_cons hlt, set_mid _ _ _ _ rfl, List.append_nil, List.append_assoc]; rfl
          | cons g G1 =>
            refine ⟨G1 ++ [L[j]], ?_, by simp⟩
            rw [List.append_assoc, List.cons_append, set_mid _ _ _ _ rfl, drop_cons hlt]
            simp
        obtain ⟨G2, hs, hg2⟩ := hset
        rw [hs]
        have hl2 : ((L.take (j + 1)).filter (keepN p.xs)).length = ((L.take j).filter (keepN p.xs)).length + 1 := by rw [hft]; simp
        rw [← hl2]
        exact ih (j + 1) G2 (by omega) (by omega) (by omega)
      | false =>
        rw [hk, if_neg (by decide), List.append_nil] at hft
        rw [if_neg (by decide), Option.bind_some, ckS (by omega) (by omega), Option.bind_some, castS]
        have := ih (j + 1) (G ++ [L[j]]) (by omega) (by omega) (by rw [hft, List.length_append, List.length_singleton]; omega)
        rw [hft] at this
        rw [show (L.take j).filter (keepN p.xs) ++ G ++ L.drop j = (L.take j).filter (keepN p.xs) ++ (G ++ [L[j]]) ++ L.drop (j + 1) by rw [drop_cons hlt]; simp]
        exact this
    · obtain rfl : j = L.length := by omega
      rw [if_neg (by rw [decide_eq_true_eq]; omega), List.drop_length, List.append_nil, List.take_length]
      rw [List.take_length] at hG
      exact ⟨G, rfl, hG⟩
theorem p34_eq {n : Nat} (hn : 300 ≤ n) {L : List Nd} {c : Option Nat} {p : Sl Int} (hl : L.length ≤ 200) (hp : p.xs.length ≤ 200) : p34_35 n ⟨L, c⟩ p = some ⟨L.filter (keepN p.xs), c⟩ := by
  unfold p34_35 p45_35
  rcases p45_35_l1_eq hn (c := c) hl hp n 0 (Nat.zero_le _) (by omega) with ⟨h1, h2⟩ | ⟨j, hj, _, h1, h2, h3⟩
  · rw [show p45_35_l1 n (⟨L, c⟩ : Sl Nd) p n 0 = _ from h1]
    rw [List.drop_zero] at h2
    rw [List.filter_eq_self.2 h2]
    rfl
  · rw [show p45_35_l1 n (⟨L, c⟩ : Sl Nd) p n 0 = _ from h1]
    rw [show ((some (Sum.inr (j : Int)) : Option (Unit ⊕ Int)).bind fun (y_6 : Unit ⊕ Int) => lrK y_6 some fun (s_7 : Unit) => some (-1)) = some (j : Int) from rfl, Option.bind_some]
    rw [show ((j : Int) == -1) = false from beq_eq_false_iff_ne.2 (by omega), if_neg (by decide), ckS (by omega) (by omega), Option.bind_some, castS]
    have hf : (L.take j).filter (keepN p.xs) = L.take j := List.filter_eq_self.2 fun x hx => by
      obtain ⟨i, hi, rfl⟩ := List.getElem_of_mem hx
      rw [List.length_take] at hi
      rw [List.getElem_take]
      exact h3 i (by omega) (Nat.zero_le _) (by omega)
    have hf1 : (L.take (j + 1)).filter (keepN p.xs) = L.take j := by
      rw [List.take_succ_eq_append_getElem hj, List.filter_append, hf]
      simp [List.filter_cons, h2]
    have htl : (L.take j).length = j := by rw [List.length_take]; omega
    obtain ⟨G', e1, e2⟩ := p34_l1_eq hn (c := c) hl hp n (j + 1) [L[j]] (by omega) (by omega) (by rw [hf1, htl]; rfl)
    rw [hf1, htl] at e1
    rw [show L.take j ++ [L[j]] ++ L.drop (j + 1) = L by rw [List.append_assoc, List.singleton_append, ← drop_cons hj, List.take_append_drop]] at e1
    rw [show p34_35_l1 n ⟨L, c⟩ p n ((j + 1 : Nat) : Int) (j : Int) (⟨L, c⟩ : Sl Nd).xs = _ from e1, Option.bind_some]
    unfold subI
    rw [if_pos (show (0 : Int) ≤ ((L.filter (keepN p.xs)).length : Int) ∧ ((L.filter (keepN p.xs)).length : Int) ≤ ((L.filter (keepN p.xs) ++ G').length : Int) from ⟨by omega, by rw [List.length_append]; omega⟩), Option.bind_some, Int.toNat_natCast, List.take_left]
    unfold cutI
    rw [if_pos (show (0 : Int) ≤ ((L.filter (keepN p.xs)).length : Int) ∧ ((L.filter (keepN p.xs)).length : Int) ≤ _ from ⟨by omega, by rw [List.length_append]; omega⟩), Option.bind_some, Int.toNat_natCast, List.take_left]
/-- The list without a path and all that hangs on it. -/
def takeL (l : List Nd) (p : List Int) : List Nd := (l.filter (keepN p)).map ownN
theorem thr_of {p q : List Int} (hl : 1 < q.length) (h : q.dropLast = p ∨ thr q.dropLast p) : thr q p := by
  have hd : q.dropLast = q.take (q.length - 1) := List.dropLast_eq_take ..
  rcases h with h | ⟨h1, h2⟩
  · subst h
    refine ⟨by rw [List.length_dropLast]; omega, ?_⟩
    rw [List.length_dropLast, hd]
  · rw [List.length_dropLast] at h1
    refine ⟨by omega, ?_⟩
    rw [hd, List.take_take, Nat.min_eq_left (by omega)] at h2
    exact h2
theorem V.take {l : List Nd} (h : V l) (p : List Int) : V (takeL l p) := by
  have : V (l.filter (keepN p)) := by
    refine ⟨Nat.le_trans (List.length_filter_le _ _) h.len, fun x hx => h.ok x ((List.mem_filter.1 hx).1), h.sorted.filter _, fun x hx hl => ?_⟩
    obtain ⟨hx1, hx2⟩ := List.mem_filter.1 hx
    obtain ⟨y, hy, h1, h2⟩ := h.par x hx1 hl
    refine ⟨y, List.mem_filter.2 ⟨hy, ?_⟩, h1, h2⟩
    unfold keepN at hx2 ⊢
    rw [Bool.not_eq_true', Bool.or_eq_false_iff, decide_eq_false_iff_not, decide_eq_false_iff_not] at hx2 ⊢
    refine ⟨fun e => hx2.2 (thr_of hl (.inl (by rw [← h1]; exact e))), fun e => hx2.2 (thr_of hl (.inr (by rw [← h1]; exact e)))⟩
  exact this.own
theorem p16_eq {n : Nat} (hn : 300 ≤ n) {l : List Nd} {c : Option Nat} (h : V l) {p : Sl Int} (hp : p.xs.length ≤ 200) :
    ((∀ x ∈ l, pa x ≠ p.xs) ∧ p16 n ⟨l, c⟩ p = some (⟨[], some 0⟩, 7)) ∨ ((∃ x ∈ l, pa x = p.xs) ∧ p16 n ⟨l, c⟩ p = some (⟨takeL l p.xs, some (takeL l p.xs).length⟩, 0)) := by
  have hl := h.len
  unfold p16
  rw [p19_ok hn h, Option.bind_some, if_neg (by decide)]
  rcases p30_eq hn (l := l) (c := c) (p := p) (by omega) hp with ⟨h1, h2⟩ | ⟨j, hj, h1, h2⟩
  · exact .inl ⟨h2, by rw [h1, Option.bind_some, if_pos (by decide)]⟩
  · refine .inr ⟨⟨l[j], List.getElem_mem hj, h2⟩, ?_⟩
    rw [h1, Option.bind_some, if_neg (by rw [decide_eq_true_eq]; omega), p23_eq hn (by omega) (fun x hx => by have := h.plen x hx; omega), Option.bind_some]
    dsimp only
    rw [p34_eq hn (by rw [List.length_map]; omega) hp, Option.bind_some]
    have hf : (l.map ownN).filter (keepN p.xs) = takeL l p.xs := by unfold takeL; rw [List.filter_map]; rfl
    have hlt : (takeL l p.xs).length ≤ 127 := (h.take p.xs).len
    rw [hf, p23_eq hn (by omega) (fun x hx => by have := (h.take p.xs).plen x hx; omega), Option.bind_some]
    have : (takeL l p.xs).map ownN = takeL l p.xs := by
      unfold takeL
      rw [List.map_map]
      rfl
    dsimp only
    rw [this]
/-! ### A frame passes -/
def needB (l : List Nd) (x : Nd) : Bool := busy x || l.any fun m => !asl m && decide (thr (pa m) (pa x))
theorem p45_41_l1_eq {n : Nat} (hn : 300 ≤ n) {l : List Nd} {c : Option Nat} {x : Nd} (hl : l.length ≤ 200) (hp : (pa x).length ≤ 200) : ∀ (m k : Nat), k ≤ l.length → l.length - k < m →
    (p45_41_l1 n ⟨l, c⟩ x m k = some (.inl ()) ∧ ((l.drop k).any fun m => !asl m && decide (thr (pa m) (pa x))) = false) ∨ ∃ (j : Nat), p45_41_l1 n ⟨l, c⟩ x m k = some (.inr (j : Int)) ∧ ((l.drop k).any fun m => !asl m && decide (thr (pa m) (pa x))) = true := by
  intro m
  induction m with
  | zero => intro k _ h; exact absurd h (by omega)
  | succ m ih =>
    intro k hk hm
    unfold p45_41_l1
    rw [lenI_mk]
    by_cases hlt : k < l.length
    · rw [if_pos (decide_eq_true (show (k : Int) < (l.length : Int) by omega)), show idx (⟨l, c⟩ : Sl Nd).xs (k : Int) = some l[k] from idxE hlt, Option.bind_some]
      unfold p41
      rw [p37_eq hn _ _ hp, Option.bind_some, andS, Option.bind_some, Option.bind_some, show (!l[k].2.2.2.1 && decide (thr l[k].1.xs x.1.xs)) = (!asl l[k] && decide (thr (pa l[k]) (pa x))) from rfl, drop_cons hlt, List.any_cons]
      cases e : (!asl l[k] && decide (thr (pa l[k]) (pa x))) with
      | true =>
        right
        rw [if_pos rfl, Bool.true_or]
        exact ⟨k, rfl, rfl⟩
      | false =>
        rw [if_neg (by decide), Bool.false_or, ckS (by omega) (by omega), Option.bind_some, castS]
        exact ih (k + 1) (by omega) (by omega)
    · left
      rw [if_neg (by rw [decide_eq_true_eq]; omega), List.drop_eq_nil_of_le (by omega)]
      exact ⟨rfl, rfl⟩
theorem p25_eq {n : Nat} (hn : 300 ≤ n) {l : List Nd} {c : Option Nat} {x : Nd} (hl : l.length ≤ 200) (hp : (pa x).length ≤ 200) : p25 n ⟨l, c⟩ x = some (needB l x) := by
  have e : p40_41 n ⟨l, c⟩ x = some (l.any fun m => !asl m && decide (thr (pa m) (pa x))) := by
    unfold p40_41 p45_41
    rcases p45_41_l1_eq hn (c := c) hl hp n 0 (Nat.zero_le _) (by omega) with ⟨h1, h2⟩ | ⟨j, h1, h2⟩
    · rw [show p45_41_l1 n (⟨l, c⟩ : Sl Nd) x n 0 = _ from h1]
      rw [List.drop_zero] at h2
      rw [h2]; rfl
    · rw [show p45_41_l1 n (⟨l, c⟩ : Sl Nd) x n 0 = _ from h1]
      rw [List.drop_zero] at h2
      rw [h2]
      show some (decide ((j : Int) ≥ 0)) = _
      rw [decide_eq_true (by omega)]
  unfold p25
  rw [e, Option.bind_some, orS, Option.bind_some]
  rfl
/-- A node behind a frame. -/
def tickN (l : List Nd) (after : Int) (x : Nd) : Nd :=
  if asl x then ownN x else if needB l x then (⟨x.1.xs, some x.1.xs.length⟩, x.2.1, x.2.2.1, x.2.2.2.1, 0) else if qt x ≥ after - 1 then (⟨x.1.xs, some x.1.xs.length⟩, x.2.1, x.2.2.1, true, 0) else (⟨x.1.xs, some x.1.xs.length⟩, x.2.1, x.2.2.1, x.2.2.2.1, qt x + 1)
/-- Does a node fall asleep in a frame? -/
def falls (l : List Nd) (after : Int) (x : Nd) : Bool := !asl x && !needB l x && decide (qt x ≥ after - 1)
def sleeps (l : List Nd) (after : Int) (q : List Nd) : List (Sl Int × Bool) := (q.reverse.filter (falls l after)).map fun x => (⟨x.1.xs, some x.1.xs.length⟩, false)
theorem p12_r1_eq {n : Nat} (hn : 300 ≤ n) {l : List Nd} {c : Option Nat} (h : V l) {after : Int} (ha : 1 ≤ after ∧ after ≤ 9223372036854775807) {k : Nat} (hk : k < l.length) {os : List (Sl Int × Bool)} (hos : os.length ≤ 200) {b : List Nd} :
    p12_r1 n ⟨l, c⟩ after ((l.take k).map ownN ++ ownN l[k] :: b, os) ((k : Int), l[k]) = some (0, ((l.take k).map ownN ++ tickN l after l[k] :: b, os ++ if falls l after l[k] then [(⟨l[k].1.xs, some l[k].1.xs.length⟩, false)] else [])) := by
  have hl := h.len
  obtain ⟨o1, o2, o3, o4⟩ := h.ok l[k] (List.getElem_mem hk)
  have hpl := o1.1.2
  have htk : ((l.take k).map ownN).length = k := by rw [List.length_map, List.length_take]; omega
  have hmid : ∀ (z : Nd) (b : List Nd), idx ((l.take k).map ownN ++ z :: b) (k : Int) = some z := fun z b => by
    rw [idx_nat, List.getElem?_append_right (by omega), htk, Nat.sub_self]; rfl
  unfold p12_r1
  dsimp only
  rw [show l[k].2.2.2.1 = asl l[k] from rfl, show l[k].2.2.2.2 = qt l[k] from rfl]
  unfold tickN falls
  cases hasl : asl l[k] with
  | true => rw [if_pos rfl, Option.bind_some]; simp
  | false =>
    rw [if_neg (by decide), if_neg (by decide), p25_eq hn (by omega) (show (pa l[k]).length ≤ 200 by omega), Option.bind_some]
    cases hnb : needB l l[k] with
    | true =>
      rw [if_pos rfl, if_pos rfl, hmid, Option.bind_some, Option.bind_some, Option.bind_some, Int.toNat_natCast, set_mid _ _ _ _ htk.symm]
      simp [ownN]
    | false =>
      rw [if_neg (by decide), if_neg (by decide), ckS (by omega) (by omega), Option.bind_some]
      by_cases hq : qt l[k] ≥ after - 1
      · rw [if_pos (decide_eq_true hq), if_pos hq, hmid, Option.bind_some, Int.toNat_natCast, set_mid _ _ _ _ htk.symm, hmid, Option.bind_some, p26_eq n _ (by show (pa l[k]).length ≤ _; omega), Option.bind_some, appI_ok (by rw [List.length_singleton]; omega), Option.bind_some, Option.bind_some, Option.bind_some, Option.bind_some, set_mid _ _ _ _ htk.symm]
        simp [hq, ownN]
      · rw [if_neg (by rw [decide_eq_true_eq]; exact hq), if_neg hq, hmid, Option.bind_some, show (ownN l[k]).2.2.2.2 = qt l[k] from rfl, ckS (by omega) (by omega), Option.bind_some, Option.bind_some, Option.bind_some, Option.bind_some, Option.bind_some, Int.toNat_natCast, set_mid _ _ _ _ htk.symm]
        simp [hq, ownN]
theorem p39_l1_eq {n : Nat} (hn : 300 ≤ n) {l : List Nd} {c : Option Nat} (h : V l) {after : Int} (ha : 1 ≤ after ∧ after ≤ 9223372036854775807) : ∀ (k m : Nat), k ≤ l.length → k < m →
    p39_l1 n (Nat × (List Nd × List (Sl Int × Bool))) ⟨l, c⟩ (rnd (p12_r1 n ⟨l, c⟩ after)) m ((k : Int) - 1) (0, ((l.take k).map ownN ++ (l.drop k).map (tickN l after), sleeps l after (l.drop k))) = some (.inl (0, (l.map (tickN l after), sleeps l after l))) := by
  have hl := h.len
  intro k
  induction k with
  | zero =>
    intro m _ hm
    obtain ⟨m, rfl⟩ : ∃ q, m = q + 1 := ⟨m - 1, by omega⟩
    unfold p39_l1
    rw [if_neg (by decide), List.take_zero, List.drop_zero]; rfl
  | succ k ih =>
    intro m hk hm
    obtain ⟨m, rfl⟩ : ∃ q, m = q + 1 := ⟨m - 1, by omega⟩
    have hlt : k < l.length := by omega
    unfold p39_l1
    rw [show ((k + 1 : Nat) : Int) - 1 = (k : Int) by omega, if_pos (decide_eq_true (show (k : Int) ≥ 0 by omega)), show idx (⟨l, c⟩ : Sl Nd).xs (k : Int) = some l[k] from idxE hlt, Option.bind_some]
    have hsl : (sleeps l after (l.drop (k + 1))).length ≤ 200 := by
      unfold sleeps
      rw [List.length_map]
      have := List.length_filter_le (falls l after) (l.drop (k + 1)).reverse
      rw [List.length_reverse, List.length_drop] at this; omega
    have e : rnd (p12_r1 n ⟨l, c⟩ after) (0, ((l.take (k + 1)).map ownN ++ (l.drop (k + 1)).map (tickN l after), sleeps l after (l.drop (k + 1)))) ((k : Int), l[k]) = some (true, (0, ((l.take k).map ownN ++ (l.drop k).map (tickN l after), sleeps l after (l.drop k)))) := by
      show ((p12_r1 n ⟨l, c⟩ after _ ((k : Int), l[k])).map _) = _
      rw [List.take_succ_eq_append_getElem hlt, List.map_append, List.append_assoc]
      rw [show (List.map ownN [l[k]] ++ (l.drop (k + 1)).map (tickN l after)) = ownN l[k] :: (l.drop (k + 1)).map (tickN l after) from rfl, p12_r1_eq hn h ha hlt hsl]
      rw [drop_cons hlt]
      unfold sleeps
      rw [List.reverse_cons, List.filter_append, List.map_append, List.map_cons]
      cases hf : falls l after l[k] <;> simp [List.filter_cons, hf]
    rw [e, Option.bind_some, ckS (by omega) (by omega), Option.bind_some]
    exact ih m (by omega) (by omega)
theorem p12_eq {n : Nat} (hn : 300 ≤ n) {l : List Nd} {c : Option Nat} (h : V l) {after : Int} (ha : after ≤ 9223372036854775807) : p12 n ⟨l, c⟩ after = some (if after < 1 then (⟨[], some 0⟩, ⟨[], some 0⟩, 1) else (⟨l.map (tickN l after), some l.length⟩, ⟨sleeps l after l, some (sleeps l after l).length⟩, 0)) := by
  have hl := h.len
  unfold p12
  rw [p19_ok hn h, Option.bind_some, if_neg (by decide)]
  by_cases h1 : after < 1
  · rw [if_pos (decide_eq_true h1), if_pos h1]
  · rw [if_neg (by rw [decide_eq_true_eq]; exact h1), if_neg h1, p23_eq hn (by omega) (fun x hx => by have := h.plen x hx; omega), Option.bind_some]
    unfold p24 p39
    rw [Option.bind_some, lenI_mk, ckS (by omega) (by omega), Option.bind_some]
    have := p39_l1_eq hn (c := c) h (after := after) ⟨by omega, ha⟩ l.length n (Nat.le_refl _) (by omega)
    rw [List.take_length, List.drop_length, List.map_nil, List.append_nil] at this
    rw [show p39_l1 n (Nat × (List Nd × List (Sl Int × Bool))) ⟨l, c⟩ (rnd (p12_r1 n ⟨l, c⟩ after)) n ((l.length : Int) - 1) (0, ((⟨l.map ownN, some l.length⟩ : Sl Nd).xs, [])) = _ from this]
    rw [show ((some (Sum.inl (0, (l.map (tickN l after), sleeps l after l))) : Option ((Nat × (List Nd × List (Sl Int × Bool))) ⊕ (Nat × (List Nd × List (Sl Int × Bool))))).bind fun y_15 => lrK y_15 some fun s_16 => some s_16) = some (0, (l.map (tickN l after), sleeps l after l)) from rfl, Option.bind_some, sl3I_all]
    rfl
theorem tickN_pa (l : List Nd) (after : Int) (x : Nd) : pa (tickN l after x) = pa x := by unfold tickN; split <;> (try split) <;> (try split) <;> rfl
theorem V.tick {l : List Nd} (h : V l) (after : Int) : V (l.map (tickN l after)) := by
  refine h.map _ (fun x _ => tickN_pa l after x) (fun x hx => ?_) (fun x hx y hy h1 h2 h3 => ?_)
  · obtain ⟨o1, o2, o3, o4⟩ := h.ok x hx
    refine ⟨by rw [tickN_pa]; exact o1, ?_⟩
    unfold tickN
    cases ha : asl x with
    | true => rw [if_pos rfl]; exact ⟨o2, by rw [ha] at o3; exact by show (busy x && asl x) = false; rw [ha]; exact o3, fun q => o4 q⟩
    | false =>
      rw [if_neg (by decide)]
      cases hn : needB l x with
      | true => rw [if_pos rfl]; exact ⟨Int.le_refl _, by show (busy x && asl x) = false; rw [ha, Bool.and_false], fun q => absurd (show (0 : Int) < 0 from q) (by decide)⟩
      | false =>
        have hb : busy x = false := by unfold needB at hn; exact (Bool.or_eq_false_iff.1 hn).1
        rw [if_neg (by decide)]
        split
        · exact ⟨Int.le_refl _, by show (busy x && true) = false; rw [hb]; rfl, fun q => absurd (show (0 : Int) < 0 from q) (by decide)⟩
        · exact ⟨by show 0 ≤ qt x + 1; omega, by show (busy x && asl x) = false; rw [hb]; rfl, fun _ => ⟨hb, ha⟩⟩
  · cases ha : asl x with
    | true => left; unfold tickN; rw [ha, if_pos rfl]; exact ha
    | false =>
      right
      have hya : asl y = false := h3.resolve_left (by rw [ha]; decide)
      have hnb : needB l y = true := by
        unfold needB
        rw [Bool.or_eq_true]
        right
        rw [List.any_eq_true]
        refine ⟨x, hx, ?_⟩
        rw [ha, decide_eq_true (thr_of h2 (.inl h1.symm))]; rfl
      unfold tickN
      rw [hya, if_neg (by decide), hnb, if_pos rfl]
      exact hya
/-! ### A call -/
theorem rem8 {x y : Int} (hx : 0 ≤ x ∧ x ≤ 255) (hy : 0 < y ∧ y ≤ 256) : remI .u8 x y = some (x % y) := by
  have h1 := Int.emod_nonneg x (show y ≠ 0 by omega)
  have h2 := Int.emod_lt_of_pos x hy.1
  exact remI_ok hx.1 hy.1 (inR_u8.2 ⟨h1, by omega⟩)
theorem quo8 {x y : Int} (hx : 0 ≤ x ∧ x ≤ 255) (hy : 0 < y) : quoI .u8 x y = some (x / y) := by
  have h1 := Int.ediv_nonneg hx.1 (Int.le_of_lt hy)
  have h2 := Int.ediv_le_self y hx.1
  exact quoI_ok hx.1 hy (inR_u8.2 ⟨h1, by omega⟩)
theorem p20_eq {n : Nat} {q : Int} (hq : 0 ≤ q ∧ q ≤ 255) : ∃ p : Sl Int, p20 n q = some p ∧ okP p.xs := by
  have d3 : 0 ≤ q / 3 ∧ q / 3 ≤ 255 := ⟨by omega, by omega⟩
  have d9 : 0 ≤ q / 9 ∧ q / 9 ≤ 255 := ⟨by omega, by omega⟩
  have d27 : 0 ≤ q / 27 ∧ q / 27 ≤ 255 := ⟨by omega, by omega⟩
  unfold p20
  rw [quo8 hq (by decide), Option.bind_some, rem8 d3 (by decide), Option.bind_some, quo8 hq (by decide), Option.bind_some, rem8 d9 (by decide), Option.bind_some, quo8 hq (by decide), Option.bind_some, rem8 d27 (by decide), Option.bind_some, rem8 hq (by decide), Option.bind_some]
  have w : ∀ z : Int, IntKind.wrap .u8 (1 + z % 3) = 1 + z % 3 := fun z => by rw [wrap_u8]; omega
  rw [w, w, w, w]
  obtain ⟨k, hk, hk3⟩ : ∃ k : Nat, 1 + q % 3 = k ∧ 1 ≤ k ∧ k ≤ 3 := ⟨(1 + q % 3).toNat, by omega, by omega, by omega⟩
  rw [hk, slI_cut (by simp; omega), Option.bind_some]
  refine ⟨_, rfl, ⟨by show 1 ≤ (List.take k _).length; simp; omega, by show (List.take k _).length ≤ 6; simp; omega⟩, fun x hx => ?_⟩
  have hx := List.mem_of_mem_take hx
  simp only [List.mem_cons, List.not_mem_nil, or_false] at hx
  rcases hx with rfl | rfl | rfl <;> omega
theorem V.nil : V [] := ⟨by decide, (fun x hx => by cases hx), List.Pairwise.nil, (fun x hx => by cases hx)⟩
def okA (a : Int × Int × Bool × Int) : Prop := (0 ≤ a.1 ∧ a.1 ≤ 255) ∧ (0 ≤ a.2.1 ∧ a.2.1 ≤ 255) ∧ (0 ≤ a.2.2.2 ∧ a.2.2.2 ≤ 255)
theorem p9_ok {n : Nat} (hn : 300 ≤ n) {l : List Nd} {c : Option Nat} (h : V l) {a : Int × Int × Bool × Int} (ha : okA a) : ∃ r, p9 n ⟨l, c⟩ a = some r ∧ (r.2.2 = 0 → V r.1.xs) := by
  obtain ⟨a1, a2, a3⟩ := ha
  obtain ⟨p, hp, hok⟩ := p20_eq (n := n) a2
  have hpl : p.xs.length ≤ 200 := by have := hok.1.2; omega
  unfold p9
  rw [hp, Option.bind_some, rem8 a1 (by decide), Option.bind_some]
  generalize a.1 % 8 = w
  by_cases h0 : w = 0
  · rw [if_pos (by rw [h0]; rfl)]
    by_cases hf : Fits l p.xs
    · rw [p15_ok hn h hf]; exact ⟨_, rfl, fun _ => h.put hf _⟩
    · obtain ⟨e, he, h1, _⟩ := p15_bad hn (c := c) h hpl hf a.2.2.1
      rw [h1]; exact ⟨_, rfl, fun q => absurd q he⟩
  · rw [if_neg (by simpa using h0)]
    by_cases h1 : w = 1
    · rw [if_pos (by rw [h1]; rfl)]
      rcases p16_eq hn (c := c) h hpl with ⟨_, e⟩ | ⟨_, e⟩
      · rw [e]; exact ⟨_, rfl, fun q => absurd q (by decide)⟩
      · rw [e]; exact ⟨_, rfl, fun _ => h.take _⟩
    · rw [if_neg (by simpa using h1)]
      have ej : (if (w == 2) = true then some (w == 2) else some (w == 3)) = some (w == 2 || w == 3) := by cases (w == 2) <;> rfl
      rw [ej, Option.bind_some]
      cases hj : (w == 2 || w == 3) with
      | true =>
        rw [if_pos rfl]
        rcases p17_eq hn (c := c) h hpl a.2.2.1 with ⟨_, e⟩ | ⟨_, e⟩
        · rw [e]; exact ⟨_, rfl, fun q => absurd q (by decide)⟩
        · rw [e]
          cases a.2.2.1
          · exact ⟨_, rfl, fun _ => h.free _⟩
          · exact ⟨_, rfl, fun _ => h.use _⟩
      | false =>
        rw [if_neg (by decide)]
        by_cases h4 : w = 4
        · rw [if_pos (by rw [h4]; rfl)]
          rcases p18_eq hn (c := c) h hpl with ⟨_, e⟩ | ⟨x, _, _, e⟩
          · rw [e]; exact ⟨_, rfl, fun q => absurd q (by decide)⟩
          · rw [e]
            cases (asl x && x.2.2.1)
            · exact ⟨_, rfl, fun q => absurd (show (6 : Int) = 0 from q) (by decide)⟩
            · exact ⟨_, rfl, fun _ => h.wake _⟩
        · rw [if_neg (by simpa using h4), rem8 a3 (by decide), Option.bind_some, p12_eq hn h (by omega)]
          by_cases h5 : a.2.2.2 % 5 < 1
          · rw [if_pos h5]; exact ⟨_, rfl, fun q => absurd q (by decide)⟩
          · rw [if_neg h5]; exact ⟨_, rfl, fun _ => h.tick _⟩
end Go.Proofs.Ytflieonbbggmhaa
