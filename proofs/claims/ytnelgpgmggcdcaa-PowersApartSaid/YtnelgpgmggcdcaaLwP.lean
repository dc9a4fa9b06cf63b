/- Powers: the law of what a need changes, in plain words. Plain theorems, no condition. -/
import Derived.Test.YtnelgpgmggcdcaaPP8
import Derived.Test.YtnelgpgmggcdcaaPt1
set_option linter.unusedVariables false
set_option linter.unusedSimpArgs false
namespace Go.Proofs.Ytnelgpgmggcdcaa
open Go.RowKit

/-- The item with another need. -/
def wneed (y : It) (nd : Int) : It := (up y, port y, hub y, self y, ready y, sleep y, nd)
section
variable {l : List It} {k : Nat} {nd : Int}
theorem wn_up (hk : k < l.length) (j : Nat) : up (g (l.set k (wneed (g l k) nd)) j) = up (g l j) := by
  rw [g_set hk]; split <;> (try rfl) <;> (rename_i e; subst e; rfl)
theorem wn_ready (hk : k < l.length) (j : Nat) : ready (g (l.set k (wneed (g l k) nd)) j) = ready (g l j) := by
  rw [g_set hk]; split <;> (try rfl) <;> (rename_i e; subst e; rfl)
theorem wn_rest (hk : k < l.length) (j : Nat) : port (g (l.set k (wneed (g l k) nd)) j) = port (g l j) ∧ hub (g (l.set k (wneed (g l k) nd)) j) = hub (g l j) ∧ self (g (l.set k (wneed (g l k) nd)) j) = self (g l j) ∧ sleep (g (l.set k (wneed (g l k) nd)) j) = sleep (g l j) := by
  rw [g_set hk]; split
  · rename_i e; subst e; exact ⟨rfl, rfl, rfl, rfl⟩
  · exact ⟨rfl, rfl, rfl, rfl⟩
theorem wn_like (hk : k < l.length) : Like l (l.set k (wneed (g l k) nd)) := ⟨by simp, wn_up hk, fun j => (wn_rest hk j).2.2.1⟩
theorem wn_good (h : Good l) (hk : k < l.length) (hn : 0 ≤ nd ∧ nd ≤ 500) : Good (l.set k (wneed (g l k) nd)) := by
  refine ⟨by simpa using h.len, fun i hi => ?_⟩
  have hi' : i < l.length := by simpa using hi
  have o := h.ok i hi'
  have hr := wn_rest (nd := nd) hk
  constructor
  · rw [wn_up hk]; exact o.up1
  · rw [(hr i).1]; exact o.port1
  · rw [g_set hk]; split
    · exact hn
    · exact o.need1
  · rw [(hr i).2.1, (hr i).2.2.1]; exact o.selfhub
  · intro q hq; rw [wn_up hk, wn_up hk, (hr q).1, (hr i).1]; exact o.free q hq
  · rw [wn_up hk, (hr _).2.1, (hr _).2.2.1, (hr i).1, (hr i).2.2.2, (hr _).2.2.2]
    have : tiers (l.set k (wneed (g l k) nd)) i = tiers l i := by unfold tiers; rw [(hr i).2.1, (wn_like hk).anc]
    rw [this]
    exact o.above
theorem wn_lit (hk : k < l.length) (j : Nat) : lit (l.set k (wneed (g l k) nd)) j = lit l j := by
  unfold lit
  rw [(wn_like hk).anc]
  congr 1
  funext q
  exact wn_ready hk q
theorem wn_own (hk : k < l.length) {j : Nat} (hj : j ≠ k) : own (g (l.set k (wneed (g l k) nd)) j) = own (g l j) := by rw [g_set hk, if_neg hj]
theorem sumP_sub {p : Nat → Prop} [DecidablePred p] {h q : Nat → Int} : ∀ (n a : Nat), sumP p h n a - sumP p q n a = sumP p (fun j => h j - q j) n a
  | 0, _ => rfl
  | n + 1, a => by
    unfold sumP
    rw [← sumP_sub n (a + 1)]
    split <;> omega
/-- What an item takes more than before. -/
def D (l : List It) (k : Nat) (nd : Int) (j : Nat) : Int := TL false (l.set k (wneed (g l k) nd)) j - TL false l j
theorem raw_diff (h : WT l) (hk : k < l.length) (j : Nat) (hj : j < l.length) : raw (l.set k (wneed (g l k) nd)) (lphi false (l.set k (wneed (g l k) nd))) j - raw l (lphi false l) j = (own (g (l.set k (wneed (g l k) nd)) j) - own (g l j)) + if self (g l j) then 0 else sumP (kid l j) (D l k nd) (l.length - (j + 1)) (j + 1) := by
  have hL := wn_like (nd := nd) hk
  unfold raw
  rw [hL.len, hL.self_]
  have e : sumP (kid (l.set k (wneed (g l k) nd)) j) (T (l.set k (wneed (g l k) nd)) (lphi false (l.set k (wneed (g l k) nd)))) (l.length - (j + 1)) (j + 1) = sumP (kid l j) (TL false (l.set k (wneed (g l k) nd))) (l.length - (j + 1)) (j + 1) :=
    sumP_congr _ _ fun q _ _ => ⟨by show up (g (l.set k (wneed (g l k) nd)) q) = _ ↔ up (g l q) = _; rw [hL.up_], fun _ => rfl⟩
  rw [e]
  have e2 := sumP_sub (p := kid l j) (h := TL false (l.set k (wneed (g l k) nd))) (q := TL false l) (l.length - (j + 1)) (j + 1)
  have e3 : sumP (kid l j) (fun q => TL false (l.set k (wneed (g l k) nd)) q - TL false l q) (l.length - (j + 1)) (j + 1) = sumP (kid l j) (D l k nd) (l.length - (j + 1)) (j + 1) := rfl
  rw [e3] at e2
  split
  · omega
  · rw [← e2]; show _ + sumP (kid l j) (TL false _) _ _ - (_ + sumP (kid l j) (TL false l) _ _) = _; omega
theorem D_eq (h : WT l) (hw : WT (l.set k (wneed (g l k) nd))) (hk : k < l.length) {j : Nat} (hj : j < l.length) : D l k nd j = if lit l j then (own (g (l.set k (wneed (g l k) nd)) j) - own (g l j)) + (if self (g l j) then 0 else sumP (kid l j) (D l k nd) (l.length - (j + 1)) (j + 1)) else 0 := by
  have hL := wn_like (nd := nd) hk
  show T _ _ j - T _ _ j = _
  rw [T_eq hw.len (by rw [hL.len]; exact hj), T_eq h.len hj, lphi_false, lphi_false, wn_lit hk]
  split
  · exact raw_diff h hk j hj
  · rfl
/-- Behind k nothing changes. -/
theorem D_high (h : WT l) (hw : WT (l.set k (wneed (g l k) nd))) (hk : k < l.length) : ∀ (f j : Nat), j < l.length → l.length - j ≤ f → k < j → D l k nd j = 0
  | 0, j, hj, hf, _ => absurd hf (by omega)
  | f + 1, j, hj, hf, hkj => by
    rw [D_eq h hw hk hj, wn_own hk (by omega), sumP_zero _ _ fun q a b _ => D_high h hw hk f q (by omega) (by omega) (by omega)]
    split <;> (try split) <;> omega
/-- What the item k itself takes more. -/
theorem D_at (h : WT l) (hw : WT (l.set k (wneed (g l k) nd))) (hk : k < l.length) : D l k nd k = if lit l k = true ∧ sleep (g l k) = false ∧ ready (g l k) = true then nd - need (g l k) else 0 := by
  have hs : (if self (g l k) = true then 0 else sumP (kid l k) (D l k nd) (l.length - (k + 1)) (k + 1)) = 0 := by
    rw [sumP_zero _ _ fun q a b _ => D_high h hw hk _ q (by omega) (Nat.le_refl _) (by omega)]; split <;> rfl
  rw [D_eq h hw hk hk, hs, g_set hk, if_pos rfl, Int.add_zero]
  unfold own
  rw [show sleep (wneed (g l k) nd) = sleep (g l k) from rfl, show ready (wneed (g l k) nd) = ready (g l k) from rfl, show need (wneed (g l k) nd) = nd from rfl]
  cases lit l k <;> cases sleep (g l k) <;> cases ready (g l k) <;> simp
structure InvP (l : List It) (k : Nat) (nd : Int) (c : Nat) (ts : List Int) : Prop where
  len : ts.length = 128
  bit : ∀ j, ts.getD j 0 = 0 ∨ ts.getD j 0 = 1
  at_ : ts.getD c 0 = 1
  ck : c ≤ k
  low : ∀ q, ts.getD q 0 = 1 → c ≤ q ∧ q ≤ k ∧ (q = c ∨ 0 ≤ up (g l q) ∧ ts.getD (up (g l q)).toNat 0 = 1)
  lits : lit l k = true → ∀ q, ts.getD q 0 = 1 → lit l q = true
  d : ∀ j, c ≤ j → j < l.length → D l k nd j = D l k nd k * ts.getD j 0
theorem gap (h : WT l) (hw : WT (l.set k (wneed (g l k) nd))) (hk : k < l.length) {ts : List Int} (hb : ∀ j, ts.getD j 0 = 0 ∨ ts.getD j 0 = 1) {j : Nat} (hj : j < k) (hd : ∀ q, j < q → q < l.length → D l k nd q = D l k nd k * ts.getD q 0) (hu : ∀ q, ts.getD q 0 = 1 → up (g l q) = (j : Int) → self (g l j) = true) : D l k nd j = 0 := by
  rw [D_eq h hw hk (by omega), wn_own hk (by omega)]
  cases hs : self (g l j) with
  | true => rw [if_pos rfl]; split <;> omega
  | false =>
    rw [sumP_zero _ _ fun q a b hp => by
      rw [hd q (by omega) (by omega)]
      rcases hb q with e | e
      · rw [e, Int.mul_zero]
      · rw [hu q e hp] at hs; cases hs]
    split <;> (try split) <;> omega
theorem gaps (h : WT l) (hw : WT (l.set k (wneed (g l k) nd))) (hk : k < l.length) {ts : List Int} {c : Nat} (hI : InvP l k nd c ts) (a : Nat) (hu : ∀ j, a ≤ j → j < c → up (g l c) = (j : Int) → self (g l j) = true) : ∀ (e : Nat), a + e ≤ c → ∀ j, c - e ≤ j → j < l.length → D l k nd j = D l k nd k * ts.getD j 0
  | 0, _, j, h1, h2 => hI.d j h1 h2
  | e + 1, he, j, h1, h2 => by
    have ih := gaps h hw hk hI a hu e (by omega)
    by_cases hj : c - e ≤ j
    · exact ih j hj h2
    · have hjc : j < c := by omega
      have ht : ts.getD j 0 = 0 := by
        rcases hI.bit j with e | e
        · exact e
        · have := (hI.low j e).1; omega
      rw [ht, Int.mul_zero]
      refine gap h hw hk hI.bit (by have := hI.ck; omega) (fun q a b => ih q (by omega) b) fun q hq hqu => ?_
      obtain ⟨l1, l2, l3⟩ := hI.low q hq
      rcases l3 with rfl | ⟨l3, l4⟩
      · exact hu j (by omega) hjc hqu
      · rw [hqu, Int.toNat_natCast] at l4
        rw [l4] at ht; cases ht
theorem sumP_single {p : Nat → Prop} [DecidablePred p] {h : Nat → Int} {c : Nat} (hp : p c) : ∀ (n a : Nat), a ≤ c → c < a + n → (∀ j, a ≤ j → j < a + n → p j → j ≠ c → h j = 0) → sumP p h n a = h c
  | 0, a, h1, h2, _ => absurd h2 (by omega)
  | n + 1, a, h1, h2, h3 => by
    unfold sumP
    by_cases e : a = c
    · subst e
      rw [if_pos hp, sumP_zero n (a + 1) fun j x y z => h3 j (by omega) (by omega) z (by omega)]; omega
    · rw [sumP_single hp n (a + 1) (by omega) (by omega) fun j x y z w => h3 j (by omega) (by omega) z w]
      split
      · rename_i hpa; rw [h3 a (Nat.le_refl _) (by omega) hpa e]; omega
      · omega
theorem InvP.climb (h : WT l) (hw : WT (l.set k (wneed (g l k) nd))) (hk : k < l.length) (h128 : l.length ≤ 128) {ts : List Int} {c u : Nat} (hI : InvP l k nd c ts) (hu : up (g l c) = (u : Int)) (hs : self (g l u) = false) : InvP l k nd u (ts.set u 1) := by
  have hck := hI.ck
  have huc : u < c := by have := (h.up1 c (by omega)).2; omega
  have hg : ∀ j, (ts.set u 1).getD j 0 = if j = u then 1 else ts.getD j 0 := fun j => by
    rw [List.getD_eq_getElem?_getD, List.getD_eq_getElem?_getD, List.getElem?_set]
    have := hI.len
    by_cases e : u = j
    · subst e; rw [if_pos rfl, if_pos (by omega), if_pos rfl]; rfl
    · rw [if_neg e, if_neg fun e2 => e e2.symm]
  have hall := gaps h hw hk hI (u + 1) (fun j a b e => by omega) (c - (u + 1)) (by omega)
  have hlitc : lit l k = true → lit l u = true := fun e => by
    have := hI.lits e c hI.at_
    rw [lit_eq h (by omega), hu, if_pos (by omega), Int.toNat_natCast, Bool.and_eq_true] at this
    exact this.2
  refine ⟨by simp [hI.len], fun j => ?_, by rw [hg, if_pos rfl], by omega, fun q hq => ?_, fun e q hq => ?_, fun j h1 h2 => ?_⟩
  · rw [hg]; split
    · exact .inr rfl
    · exact hI.bit j
  · rw [hg] at hq
    by_cases e : q = u
    · subst e; exact ⟨Nat.le_refl _, by omega, .inl rfl⟩
    · rw [if_neg e] at hq
      obtain ⟨l1, l2, l3⟩ := hI.low q hq
      refine ⟨by omega, l2, .inr ?_⟩
      rcases l3 with rfl | ⟨l3, l4⟩
      · rw [hu, Int.toNat_natCast, hg, if_pos rfl]; exact ⟨by omega, rfl⟩
      · refine ⟨l3, ?_⟩
        rw [hg]; split
        · rfl
        · exact l4
  · rw [hg] at hq
    by_cases e2 : q = u
    · subst e2; exact hlitc e
    · rw [if_neg e2] at hq; exact hI.lits e q hq
  · rw [hg]
    by_cases e : j = u
    · subst e
      rw [if_pos rfl, Int.mul_one, D_eq h hw hk (by omega), wn_own hk (by omega), hs]
      simp only [Bool.false_eq_true, if_false]
      rw [sumP_single (c := c) (show kid l j c from hu) _ _ (by omega) (by omega) fun q a b hp hne => by
        rw [hall q (by omega) (by omega)]
        rcases hI.bit q with e | e
        · rw [e, Int.mul_zero]
        · obtain ⟨l1, l2, l3⟩ := hI.low q e
          have hp : up (g l q) = (j : Int) := hp
          rcases l3 with rfl | ⟨l3, l4⟩
          · exact absurd rfl hne
          · rw [hp, Int.toNat_natCast] at l4
            have := (hI.low j l4).1; omega]
      rw [hall c (by omega) (by omega), hI.at_, Int.mul_one]
      cases hl : lit l j with
      | true => rw [if_pos rfl]; omega
      | false =>
        rw [if_neg (by decide), D_at h hw hk]
        cases hk2 : lit l k with
        | true => rw [hlitc hk2] at hl; cases hl
        | false => rfl
    · rw [if_neg e]; exact hall j (by omega) h2
theorem p8_l1_ok (h : WT l) (hw : WT (l.set k (wneed (g l k) nd))) (hk : k < l.length) (h128 : l.length ≤ 128) (cp : Option Nat) (n : Nat) : ∀ (m c : Nat) (ts : List Int), c < m → InvP l k nd c ts → ∃ ts', p8_l1 n ⟨l, cp⟩ m c ts = some ts' ∧ ts'.length = 128 ∧ (∀ j, ts'.getD j 0 = 0 ∨ ts'.getD j 0 = 1) ∧ ∀ j, j < l.length → D l k nd j = D l k nd k * ts'.getD j 0 := by
  intro m
  induction m with
  | zero => intro c _ h; exact absurd h (by omega)
  | succ m ih =>
    intro c ts hcm hI
    have hck := hI.ck
    have hc : c < l.length := by omega
    have hu := h.up1 c hc
    unfold p8_l1
    rw [show idx (⟨l, cp⟩ : Sl It).xs (c : Int) = some (g l c) from idx_g hc, Option.bind_some, Option.bind_some, show (g l c).1 = up (g l c) from rfl]
    have fin : (∀ j, 0 ≤ j → j < c → up (g l c) = (j : Int) → self (g l j) = true) → ∃ ts', (some ts : Option (List Int)) = some ts' ∧ ts'.length = 128 ∧ (∀ j, ts'.getD j 0 = 0 ∨ ts'.getD j 0 = 1) ∧ ∀ j, j < l.length → D l k nd j = D l k nd k * ts'.getD j 0 := fun hz =>
      ⟨ts, rfl, hI.len, hI.bit, fun j hj => gaps h hw hk hI 0 hz c (by omega) j (by omega) hj⟩
    by_cases h0 : 0 ≤ up (g l c)
    · obtain ⟨u, hu'⟩ : ∃ u : Nat, up (g l c) = u := ⟨(up (g l c)).toNat, by omega⟩
      rw [if_pos (decide_eq_true h0), hu', show idx (⟨l, cp⟩ : Sl It).xs (u : Int) = some (g l u) from idx_g (show u < l.length by omega), Option.bind_some, Option.bind_some, Option.bind_some, show (g l u).2.2.2.1 = self (g l u) from rfl]
      cases hs : self (g l u) with
      | true => rw [if_neg (by decide)]; exact fin fun j _ _ e => (by rw [hu'] at e; have e2 : u = j := (by omega); rw [← e2]; exact hs)
      | false =>
        rw [ifNot, show (g l c).1 = (u : Int) from hu', idxD 0 (show u < ts.length by rw [hI.len]; omega), Option.bind_some, Int.toNat_natCast]
        exact ih u (ts.set u 1) (by omega) (hI.climb h hw hk h128 hu' hs)
    · rw [if_neg (by rw [decide_eq_true_eq]; exact h0), Option.bind_some, if_neg (by decide)]
      exact fin fun j _ _ e => by omega
theorem p8_l2_ok (h : WT l) (hw : WT (l.set k (wneed (g l k) nd))) (hk : k < l.length) (h128 : l.length ≤ 128) (cp c1 c2 : Option Nat) (e1 e2 : Int) (n : Nat) {ts : List Int} (h2 : ts.length = 128) (hb : ∀ j, ts.getD j 0 = 0 ∨ ts.getD j 0 = 1) (hd : ∀ j, j < l.length → D l k nd j = D l k nd k * ts.getD j 0) : ∀ (m j : Nat), j ≤ l.length → l.length - j < m →
    p8_l2 n ⟨l, cp⟩ (⟨tab l.length (TL false l), c1⟩, e1) (⟨tab l.length (TL false (l.set k (wneed (g l k) nd))), c2⟩, e2) (D l k nd k) ts m j = some (.inl ()) := by
  intro m
  induction m with
  | zero => intro j _ h; exact absurd h (by omega)
  | succ m ih =>
    intro j hj hm
    unfold p8_l2
    rw [lenI_mk]
    by_cases hlt : j < l.length
    · have hL := wn_like (nd := nd) hk
      have b1 := T_nonneg h (lphi_ok false l) hlt
      have b2 := T_le h (lphi_ok false l) hlt
      have b3 := T_nonneg hw (lphi_ok false (l.set k (wneed (g l k) nd))) (i := j) (by rw [hL.len]; exact hlt)
      have b4 := T_le hw (lphi_ok false (l.set k (wneed (g l k) nd))) (i := j) (by rw [hL.len]; exact hlt)
      have e := hd j hlt
      have eD : D l k nd j = TL false (l.set k (wneed (g l k) nd)) j - TL false l j := rfl
      rw [if_pos (decide_eq_true (show (j : Int) < (l.length : Int) by omega)), tab_idx _ hlt, Option.bind_some, tab_idx _ hlt, Option.bind_some, ← eD, idxD 0 (show j < ts.length by omega)]
      rw [ckS (by rw [eD]; show -9223372036854775808 ≤ T _ _ j - T _ _ j; omega) (by rw [eD]; show T _ _ j - T _ _ j ≤ 9223372036854775807; omega), Option.bind_some, Option.bind_some, ← e, ckS (by rw [eD]; show -9223372036854775808 ≤ T _ _ j - T _ _ j; omega) (by rw [eD]; show T _ _ j - T _ _ j ≤ 9223372036854775807; omega), Option.bind_some, if_neg (by simp), ckS (by omega) (by omega), Option.bind_some, show ((j : Int) + 1) = ((j + 1 : Nat) : Int) by simp]
      exact ih (j + 1) (by omega) (by omega)
    · rw [if_neg (by rw [decide_eq_true_eq]; show ¬ ((j : Int) < (l.length : Int)); omega)]
end
theorem p8_law {x : Sl (Int × Int × Int × Int)} {i nd : Int} (F : Fine (.sl (.st (.pair (.int .u8) (.pair (.int .u8) (.pair (.int .u8) (.int .u16)))))) x) (G1 : InR .u8 i) (G2 : InR .u16 nd) : p8 6000 x i nd = some true := by
  obtain ⟨l, h1, h, h40⟩ := p9_ok (n := 6000) (by decide) (In9_of F)
  have hw := h.wt
  unfold p8
  rw [h1, Option.bind_some]
  dsimp only
  rw [lenI_mk]
  by_cases hl0 : l.length = 0
  · rw [if_pos (by rw [hl0]; rfl), lives]; rfl
  · have hi := inR_u8.1 G1
    have hnd := inR_u16.1 G2
    have q1 := Int.emod_nonneg i (show (l.length : Int) ≠ 0 by omega)
    have q2 := Int.emod_lt_of_pos i (show (0 : Int) < (l.length : Int) by omega)
    have q3 := Int.emod_nonneg nd (show (501 : Int) ≠ 0 by decide)
    have q4 := Int.emod_lt_of_pos nd (show (0 : Int) < 501 by decide)
    rw [if_neg (fun e => hl0 (by have := eq_of_beq e; omega)), remS hi.1 (by omega) (by omega), Option.bind_some, appI_ok (by show 0 + l.length ≤ _; omega), Option.bind_some, List.nil_append, remS hnd.1 (by decide) (by omega), Option.bind_some]
    generalize nd % 501 = z at q3 q4 ⊢
    obtain ⟨k, hkk⟩ : ∃ k : Nat, i % (l.length : Int) = k := ⟨(i % (l.length : Int)).toNat, by omega⟩
    rw [hkk]
    have hk : k < l.length := by omega
    rw [idx_g hk, Option.bind_some, Int.toNat_natCast]
    have em : l.set k ((g l k).1, (g l k).2.1, (g l k).2.2.1, (g l k).2.2.2.1, (g l k).2.2.2.2.1, (g l k).2.2.2.2.2.1, z) = l.set k (wneed (g l k) z) := rfl
    rw [em]
    have hgm := wn_good h hk (nd := z) ⟨q3, by omega⟩
    have hwm := hgm.wt
    have hL := wn_like (nd := z) hk
    rw [p14_good h (by decide), Option.bind_some, p14_good hgm (by decide), Option.bind_some]
    dsimp only
    rw [hL.len, lenI_mk, lenI_mk, tab_len, tab_len]
    rw [show (if ((0 : Int) != 0) = false then some ((0 : Int) != 0) else some true) = some false from rfl, Option.bind_some, show ((l.length : Int) != (l.length : Int)) = false by simp, show (if false = false then some false else some true) = some false from rfl, Option.bind_some, show (if false = false then some false else some true) = some false from rfl, Option.bind_some, if_neg (by decide), tab_idx _ hk, Option.bind_some, tab_idx _ hk, Option.bind_some]
    have b1 := T_nonneg hw (lphi_ok false l) hk
    have b2 := T_le hw (lphi_ok false l) hk
    have b3 := T_nonneg hwm (lphi_ok false (l.set k (wneed (g l k) z))) (i := k) (by rw [hL.len]; exact hk)
    have b4 := T_le hwm (lphi_ok false (l.set k (wneed (g l k) z))) (i := k) (by rw [hL.len]; exact hk)
    rw [ckS (by show -9223372036854775808 ≤ T _ _ k - T _ _ k; omega) (by show T _ _ k - T _ _ k ≤ 9223372036854775807; omega), Option.bind_some, Option.bind_some]
    have eD : TL false (l.set k (wneed (g l k) z)) k - TL false l k = D l k z k := rfl
    rw [eD, show (g l k).2.2.2.2.2.1 = sleep (g l k) from rfl, Option.bind_some, show (g l k).2.2.2.2.1 = ready (g l k) from rfl, orS, Option.bind_some, p26_eq hw (by decide) hk, Option.bind_some, orS, Option.bind_some]
    have hDk := D_at hw hwm hk
    have hn := hw.need1 k hk
    have ej : ∀ (y : It), y = wneed (g l k) z → (if (sleep (g l k) || !ready (g l k) || ((if lit l k = true then (1 : Int) else 0) == 0)) = true then (if (D l k z k != 0) = true then some (.inr false) else some (.inl ())) else (some y).bind fun y_152 => (some (g l k)).bind fun y_158 => (ckI .i64 (y_152.2.2.2.2.2.2 - y_158.2.2.2.2.2.2)).bind fun x_164 => if (D l k z k != x_164) = true then some (.inr false) else some (.inl ())) = (some (.inl ()) : Option (Unit ⊕ Bool)) := by
      intro y hy
      subst hy
      rw [hDk]
      by_cases hc : lit l k = true ∧ sleep (g l k) = false ∧ ready (g l k) = true
      · obtain ⟨a, b, c⟩ := hc
        rw [a, b, c, if_neg (by decide), Option.bind_some, Option.bind_some, if_pos ⟨rfl, rfl, rfl⟩, show (wneed (g l k) z).2.2.2.2.2.2 = z from rfl, show (g l k).2.2.2.2.2.2 = need (g l k) from rfl, ckS (by omega) (by omega), Option.bind_some, if_neg (by simp)]
      · rw [if_neg hc, if_pos, if_neg (by decide)]
        cases ha : lit l k
        · simp
        · cases hb : sleep (g l k)
          · cases hr : ready (g l k)
            · rfl
            · exact absurd ⟨ha, hb, hr⟩ hc
          · rfl
    have is : idx (l.set k (wneed (g l k) z)) (k : Int) = some (wneed (g l k) z) := by rw [idx_nat]; simp [hk]
    rw [is, ej _ rfl, Option.bind_some, lrKl, idxD 0 (show k < (List.replicate 128 (0 : Int)).length by rw [List.length_replicate]; omega), Option.bind_some]
    have hg : ∀ j, ((List.replicate 128 (0 : Int)).set k 1).getD j 0 = if j = k then 1 else 0 := fun j => by
      rw [List.getD_eq_getElem?_getD, List.getElem?_set]
      by_cases e : k = j
      · subst e; rw [if_pos rfl, if_pos (by rw [List.length_replicate]; omega), if_pos rfl]; rfl
      · rw [if_neg e, if_neg fun e2 => e e2.symm, List.getElem?_replicate]; split <;> rfl
    have hI : InvP l k z k ((List.replicate 128 (0 : Int)).set k 1) := by
      refine ⟨by simp, fun j => ?_, by rw [hg, if_pos rfl], Nat.le_refl _, fun q hq => ?_, fun e q hq => ?_, fun j h1 h2 => ?_⟩
      · rw [hg]; split
        · exact .inr rfl
        · exact .inl rfl
      · rw [hg] at hq
        by_cases e : q = k
        · subst e; exact ⟨Nat.le_refl _, Nat.le_refl _, .inl rfl⟩
        · rw [if_neg e] at hq; cases hq
      · rw [hg] at hq
        by_cases e2 : q = k
        · subst e2; exact e
        · rw [if_neg e2] at hq; cases hq
      · rw [hg]
        by_cases e : j = k
        · subst e; rw [if_pos rfl, Int.mul_one]
        · rw [if_neg e, Int.mul_zero, D_high hw hwm hk _ j h2 (Nat.le_refl _) (by omega)]
    obtain ⟨ts, t1, t2, t3, t4⟩ := p8_l1_ok hw hwm hk (by omega) .none 6000 6000 k _ (by omega) hI
    rw [t1, Option.bind_some]
    have e8 := p8_l2_ok hw hwm hk (by omega) .none (some l.length) (some l.length) 0 0 6000 t2 t3 t4 6000 0 (Nat.zero_le _) (by omega)
    rw [show (0 : Int) = ((0 : Nat) : Int) from rfl] at e8 ⊢
    rw [e8, Option.bind_some, lrKl, lives]
    rfl
end Go.Proofs.Ytnelgpgmggcdcaa
