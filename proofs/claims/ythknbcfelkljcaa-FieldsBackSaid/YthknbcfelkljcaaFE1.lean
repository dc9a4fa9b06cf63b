/- Fields in plain words: Blank and Pack. Plain theorems, no condition. -/
import Derived.Test.YthknbcfelkljcaaPb2
import Derived.Test.YthknbcfelkljcaaFD8
set_option linter.unusedVariables false
set_option linter.unusedSimpArgs false
namespace Go.Proofs.Ythknbcfelkljcaa
open Go.RowKit
theorem FBs.us {m : Mpt} (h : FBs m.1.xs) : Us m := fun f hf => by have := (h f hf).U; omega
theorem p41_l1_eq (n : Nat) (m : Mpt) (f : Fd) (hB : okB m f) (hs : 1 ≤ fS f ∧ fS f ≤ 32) (hU : (fU f).xs.length ≤ 9223372036854775807) (a b : Int) : ∀ (q k : Nat), 3 - k < q → k ≤ 3 → ∃ z, p41_l1 n f a b q k = some z := by
  intro q
  induction q with
  | zero => intro k hm; exact absurd hm (by omega)
  | succ q ih =>
    intro k hm hk
    rw [p41_l1]
    by_cases hlt : k < 3
    · have hi : idx ([0, a, b] : List Int) (k : Int) = some (([0, a, b] : List Int)[k]'(by simpa using hlt)) := c_H (by simpa using hlt)
      rw [c_s (by omega), hi, Option.bind_some]
      generalize ([0, a, b] : List Int)[k]'(by simpa using hlt) = v
      have h28 := p28_eq n m f hB 0 (by omega) hU v
      rw [show ((0 : Nat) : Int) = 0 from rfl] at h28
      rw [h28, Option.bind_some]
      obtain ⟨c, hc⟩ : ∃ c : Bool, (if (!(hldR (hld f 0 v)).2.2) = true then (p32 n f v).bind fun t_39 => some t_39 else some false) = some c := by
        rw [p32_eq n f v hs, Option.bind_some]
        split <;> exact ⟨_, rfl⟩
      rw [hc, Option.bind_some]
      cases c with
      | true => exact ⟨_, rfl⟩
      | false =>
        rw [if_neg (by decide), ckS (by omega) (by omega), Option.bind_some, a_3]
        exact ih (k + 1) (by omega) (by omega)
    · rw [c_E (by omega)]; exact ⟨_, rfl⟩
theorem p41_ok {n : Nat} (hn : 1100 ≤ n) (m : Mpt) (f : Fd) (hB : okB m f) (hs : 1 ≤ fS f ∧ fS f ≤ 32) (hU : (fU f).xs.length ≤ 9223372036854775807) : ∃ v, p41 n f = some v := by
  have h3 : -2147483648 ≤ f.2.2.2.2.1 ∧ f.2.2.2.2.1 ≤ f.2.2.2.2.2.1 ∧ f.2.2.2.2.2.1 ≤ 4294967295 := by
    obtain ⟨_, _, ⟨h1, h2, h3⟩, _⟩ := hB
    exact ⟨h2, h1, h3⟩
  obtain ⟨z, hz⟩ := p41_l1_eq n m f hB hs hU (f.2.2.2.2.2.1 + 1) (f.2.2.2.2.1 - 1) n 0 (by omega) (by omega)
  rw [show ((0 : Nat) : Int) = 0 from rfl] at hz
  unfold p41
  rw [ckS (by omega) (by omega), Option.bind_some, ckS (by omega) (by omega), Option.bind_some, hz, Option.bind_some]
  cases z with
  | inl _ => rw [lrKl]; exact ⟨_, rfl⟩
  | inr _ => rw [lrKr]; exact ⟨_, rfl⟩
structure Rep (m : Mpt) (k r : Int) (b : List Int) : Prop where
  by_ : Byts b
  len : (b.length : Int) = d_K m k r
  nr : m.2.2 = true → byt b 0 = r
theorem Rep.wr {m : Mpt} {k r : Int} {b : List Int} (h : Rep m k r b) (o : Nat) (v : Int) (s : Nat) : Rep m k r (wrB m.2.2 b o v s) :=
  ⟨c_O o v h.by_ s, by rw [d_w]; exact h.len, fun hn => by rw [hn, wrB_0]; exact h.nr hn⟩
theorem Rep.elm {m : Mpt} {k r : Int} {b : List Int} (h : Rep m k r b) (hp : Ppr m) {f : Fd} (hf : f ∈ m.1.xs) (hm : mt k r f = true) {j : Nat} (hj : (j : Int) < fC f) : Elm m b f j := by
  obtain ⟨e1, e2⟩ := d_L hm
  exact Elm.of hp hf (by rw [e1, e2]; exact h.len) hj
theorem p21_l2_eq {n : Nat} (hn : 1100 ≤ n) (m : Mpt) (hp : Ppr m) (hU : Us m) (k r : Int) (q28 : Nat × Nat) (f : Fd) (hf : f ∈ m.1.xs) (hm : mt k r f = true) : ∀ (q j : Nat) (b : List Int), (fC f).toNat - j < q → j ≤ (fC f).toNat → Rep m k r b → ∃ b', p21_l2 n m q28 f q j b = some b' ∧ Rep m k r b' := by
  have hA := (hp f hf).1
  have hA' := hA.2
  intro q
  induction q with
  | zero => intro j b hm; exact absurd hm (by omega)
  | succ q ih =>
    intro j b h1 h2 hb
    rw [p21_l2]
    by_cases hlt : j < (fC f).toNat
    · have hlt' : (j : Int) < fC f := by omega
      obtain ⟨v, hv⟩ := p41_ok hn m f (hp f hf).2 hA.1 (hU f hf)
      have h33 := p33_eq (n := n) (by omega) m f (⟨b, some q28.2⟩ : Sl Int) j v hb.by_ (hb.elm hp hf hm hlt')
      obtain ⟨b', e1, e2⟩ := ih (j + 1) _ (by omega) (by omega) (hb.wr (off f j) v (fS f).toNat)
      rw [c_s (show (j : Int) < f.2.2.2.2.2.2.2.1 from hlt'), hv, Option.bind_some, h33, Option.bind_some, Option.bind_some, ckS (by omega) (by omega), Option.bind_some, a_3]
      exact ⟨b', e1, e2⟩
    · rw [c_E (show ¬ (j : Int) < f.2.2.2.2.2.2.2.1 from (show ¬ (j : Int) < fC f by omega))]
      exact ⟨b, rfl, hb⟩
theorem p21_l1_eq {n : Nat} (hn : 1100 ≤ n) (m : Mpt) (hl : m.1.xs.length ≤ 1000) (hp : Ppr m) (hU : Us m) (k r : Int) (q28 : Nat × Nat) : ∀ (q i : Nat) (b : List Int), m.1.xs.length - i < q → i ≤ m.1.xs.length → Rep m k r b → ∃ b', p21_l1 n m k r q28 q i b = some b' ∧ Rep m k r b' := by
  intro q
  induction q with
  | zero => intro i b hm; exact absurd hm (by omega)
  | succ q ih =>
    intro i b h1 h2 hb
    rw [p21_l1, a_O]
    by_cases hlt : i < m.1.xs.length
    · have hf : m.1.xs[i] ∈ m.1.xs := List.getElem_mem hlt
      rw [c_s (by omega), c_H hlt, Option.bind_some, nmt_eq, Option.bind_some]
      generalize m.1.xs[i] = f at hf
      rw [orO fun _ => rfl, Option.bind_some, orO fun _ => rfl, Option.bind_some]
      by_cases hc : ((!mt k r f || !f.2.2.2.2.2.2.2.2.2.2.1) || f.2.2.2.2.2.2.2.2.2.1) = true
      · rw [if_pos hc, ckS (by omega) (by omega), Option.bind_some, a_3]
        exact ih (i + 1) b (by omega) (by omega) hb
      · have hm : mt k r f = true := by
          cases h : mt k r f
          · rw [h] at hc; exact absurd rfl hc
          · rfl
        obtain ⟨b1, e1, e2⟩ := p21_l2_eq hn m hp hU k r q28 f hf hm n 0 b (by have := (hp f hf).1.2; omega) (by omega) hb
        rw [show ((0 : Nat) : Int) = 0 from rfl] at e1
        obtain ⟨b2, e3, e4⟩ := ih (i + 1) b1 (by omega) (by omega) e2
        rw [if_neg hc, e1, Option.bind_some, ckS (by omega) (by omega), Option.bind_some, a_3]
        exact ⟨b2, e3, e4⟩
    · rw [c_E (by omega)]; exact ⟨b, rfl, hb⟩
theorem p21_ok {n : Nat} (hn : 1100 ≤ n) (m : Mpt) (hl : m.1.xs.length ≤ 1000) (hp : Ppr m) (hU : Us m) (k r : Int) (hr : 0 ≤ r ∧ r ≤ 255) (hany : d_g m.1.xs k r = true) : ∃ b c, p21 n m k r = some (⟨b, c⟩, 0) ∧ Rep m k r b := by
  have hR := c_N m.1.xs k r
  have hL0 : 0 ≤ d_K m k r ∧ d_K m k r ≤ 9000000 ∧ (m.2.2 = true → 1 ≤ d_K m k r) := by
    unfold d_K
    rw [hany, Bool.true_and]
    split
    · exact ⟨by omega, by omega, fun _ => by omega⟩
    · rename_i h; exact ⟨by omega, by omega, fun q => absurd q h⟩
  obtain ⟨L, hL⟩ := Int.eq_ofNat_of_zero_le hL0.1
  rw [hL] at hL0
  unfold p21
  rw [p15_eq hn m hl, Option.bind_some, decide_eq_true hp, if_neg (by decide), p27_eq hn m k r hl, Option.bind_some, hany, if_neg (by decide), p22_eq hn m k r hl, Option.bind_some, hL, mkI_ok (by omega) (by omega) (by omega), Option.bind_some]
  simp only [Int.toNat_natCast]
  have hz : Byts (List.replicate L (0 : Int)) := fun y hy => by rw [List.eq_of_mem_replicate hy]; omega
  have hj : ∃ b0, (if m.2.2 = true then ((idx (List.replicate L (0 : Int)) 0).bind fun y_46 => some ((List.replicate L (0 : Int)).set (0 : Int).toNat r)) else some (List.replicate L (0 : Int))) = some b0 ∧ Rep m k r b0 := by
    by_cases hn2 : m.2.2 = true
    · have hL1 : 0 < (List.replicate L (0 : Int)).length := by rw [List.length_replicate]; have := hL0.2.2 hn2; omega
      have hi := c_H hL1
      rw [show ((0 : Nat) : Int) = 0 from rfl] at hi
      rw [if_pos hn2, hi, Option.bind_some]
      refine ⟨_, rfl, fun y hy => ?_, ?_, fun _ => ?_⟩
      · rcases List.mem_or_eq_of_mem_set hy with h | h
        · exact hz y h
        · rw [h]; exact hr
      · rw [List.length_set, List.length_replicate, hL]
      · rw [show (0 : Int).toNat = 0 from rfl, byt_set _ _ _ _ hL1, if_pos rfl]
    · rw [if_neg hn2]
      exact ⟨_, rfl, hz, by rw [List.length_replicate, hL], fun q => absurd q hn2⟩
  obtain ⟨b0, e0, r0⟩ := hj
  obtain ⟨b1, e1, r1⟩ := p21_l1_eq hn m hl hp hU k r (L, L) n 0 b0 (by omega) (by omega) r0
  rw [show ((0 : Nat) : Int) = 0 from rfl] at e1
  rw [e0, Option.bind_some, e1, Option.bind_some]
  exact ⟨_, _, rfl, r1⟩
theorem p21_none {n : Nat} (hn : 1100 ≤ n) (m : Mpt) (hl : m.1.xs.length ≤ 1000) (hp : Ppr m) (k r : Int) (hany : d_g m.1.xs k r = false) : p21 n m k r = some (⟨[], some 0⟩, 7) := by
  unfold p21
  rw [p15_eq hn m hl, Option.bind_some, decide_eq_true hp, if_neg (by decide), p27_eq hn m k r hl, Option.bind_some, hany, if_pos (show (!false) = true from rfl)]
theorem p42_l1_eq (n : Nat) (U : Sl Int) (u : Int) (a : Nat) (ha : U.xs[a]? = some u) (hnd : ∀ (i j : Nat) (w : Int), U.xs[i]? = some w → U.xs[j]? = some w → i = j) (hlen : U.xs.length ≤ 1000) : ∀ (q k : Nat), U.xs.length - k < q → k ≤ a → p42_l1 n U u q k = some (.inr (a : Int)) := by
  have hal : a < U.xs.length := by
    rcases Nat.lt_or_ge a U.xs.length with h | h
    · exact h
    · rw [List.getElem?_eq_none h] at ha; cases ha
  intro q
  induction q with
  | zero => intro k hm; exact absurd hm (by omega)
  | succ q ih =>
    intro k hm hk
    have hlt : k < U.xs.length := by omega
    rw [p42_l1, a_O, c_s (by omega), c_H hlt, Option.bind_some]
    by_cases he : u = U.xs[k]
    · have : k = a := hnd k a u (by rw [List.getElem?_eq_getElem hlt, he]) ha
      rw [if_pos (by rw [beq_iff_eq]; exact he), this]
    · have hk2 : k < a := by
        rcases Nat.lt_or_ge k a with h | h
        · exact h
        · have : k = a := by omega
          subst this
          rw [List.getElem?_eq_getElem hlt] at ha
          exact absurd (Option.some.inj ha).symm he
      rw [if_neg (by rw [beq_iff_eq]; exact he), ckS (by omega) (by omega), Option.bind_some, a_3]
      exact ih (k + 1) (by omega) (by omega)
theorem p42_ok {n : Nat} (hn : 1100 ≤ n) {U : Sl Int} {u : Int} {a : Nat} (ha : U.xs[a]? = some u) (hnd : ∀ (i j : Nat) (w : Int), U.xs[i]? = some w → U.xs[j]? = some w → i = j) (hlen : U.xs.length ≤ 1000) : p42 n U u = some (a : Int) := by
  have := p42_l1_eq n U u a ha hnd hlen n 0 (by omega) (by omega)
  rw [show ((0 : Nat) : Int) = 0 from rfl] at this
  unfold p42
  rw [this, Option.bind_some, lrKr]
def Ent (m : Mpt) (k r : Int) (W : Nat → Nat → Option Int) (e : Int × Int × Int × Int) : Prop :=
  ∃ (i j : Nat) (f : Fd) (v u V : Int), e = ((i : Int), (j : Int), u, V) ∧ m.1.xs[i]? = some f ∧ mt k r f = true ∧ fCo f = false ∧ (j : Int) < fC f ∧ fLo f ≤ v ∧ v ≤ fHi f ∧ hld f j v = some (u, V) ∧ W i j = some v
theorem p23_l1_eq {n : Nat} (hn : 1100 ≤ n) (m : Mpt) (hl : m.1.xs.length ≤ 1000) (hp : Ppr m) (hS : FBs m.1.xs) (hA : Apt m.1.xs) (k r : Int) (W : Nat → Nat → Option Int) (l : List (Int × Int × Int × Int)) (lc : Option Nat) (hl2 : l.length ≤ 1000) (hW : ∀ e ∈ l, Ent m k r W e) (t : Sl Int × Int) : ∀ (q p : Nat) (b : List Int), l.length - p < q → p ≤ l.length → Rep m k r b →
    ∃ b', p23_l1 n m k r ⟨l, lc⟩ t q p b = some (.inl b') ∧ Rep m k r b' ∧ ∀ (i j : Nat) (f : Fd), m.1.xs[i]? = some f → mt k r f = true → (j : Int) < fC f →
      ((∃ e ∈ l.drop p, e.1 = (i : Int) ∧ e.2.1 = (j : Int)) → W i j = some (b_U m b' f j)) ∧ ((¬ ∃ e ∈ l.drop p, e.1 = (i : Int) ∧ e.2.1 = (j : Int)) → b_U m b' f j = b_U m b f j) := by
  intro q
  induction q with
  | zero => intro p b hm; exact absurd hm (by omega)
  | succ q ih =>
    intro p b h1 h2 hb
    rw [p23_l1, b_g]
    by_cases hlt : p < l.length
    · obtain ⟨i0, j0, f, v, u, V, he, hf, hmt, hco, hj0, hv1, hv2, hh, hWv⟩ := hW _ (List.getElem_mem hlt)
      have hfm := List.mem_of_getElem? hf
      have hFB := hS f hfm
      have hi0 : i0 < m.1.xs.length := by
        rcases Nat.lt_or_ge i0 m.1.xs.length with h | h
        · exact h
        · rw [List.getElem?_eq_none h] at hf; cases hf
      have hfi : idx m.1.xs (i0 : Int) = some f := by
        rw [List.getElem?_eq_getElem hi0] at hf
        rw [c_H hi0]; exact hf
      have hUl := hFB.U
      have hfit := hFB.fit v hv1 hv2
      have hat : ∃ a : Nat, (fU f).xs[a]? = some u ∧ (fAr f = true → (a : Int) = v - fLo f ∧ V = 1) ∧ (fAr f = false → V = v) := by
        unfold hld at hh
        rw [if_neg (by rintro (h | h | h); · rw [hco] at h; cases h
                       · omega
                       · omega)] at hh
        by_cases ha : fAr f = true
        · rw [if_pos ha] at hh
          obtain ⟨x, hx1, hx2⟩ := Option.map_eq_some_iff.1 hh
          refine ⟨(v - fLo f).toNat, ?_, fun _ => ⟨by omega, ?_⟩, fun h => by rw [ha] at h; cases h⟩
          · rw [hx1, (Prod.mk.inj hx2).1]
          · exact (Prod.mk.inj hx2).2.symm
        · rw [if_neg ha] at hh
          obtain ⟨x, hx1, hx2⟩ := Option.map_eq_some_iff.1 hh
          refine ⟨min j0 ((fU f).xs.length - 1), ?_, fun h => absurd h ha, fun _ => (Prod.mk.inj hx2).2.symm⟩
          rw [hx1, (Prod.mk.inj hx2).1]
      obtain ⟨a, ha1, ha2, ha3⟩ := hat
      have h42 := p42_ok hn ha1 hFB.nd (by omega)
      have hE := hb.elm hp hfm hmt hj0
      have h33 := p33_eq (n := n) (by omega) m f (⟨b, t.1.cap⟩ : Sl Int) j0 v hb.by_ hE
      have h32 := p32_eq n f v (by have := hFB.S; exact ⟨this.1, by omega⟩)
      obtain ⟨b', e1, e2, e3⟩ := ih (p + 1) (wrB m.2.2 b (off f j0) v (fS f).toNat) (by omega) (by omega) (hb.wr _ _ _)
      refine ⟨b', ?_, e2, ?_⟩
      · rw [c_s (by omega), c_H hlt, Option.bind_some, he]
        simp only
        have hnum : (if f.2.2.2.2.2.2.2.2.2.2.1 = true then ((ckI .i64 (f.2.2.2.2.1 + (a : Int))).bind fun x_111 => some x_111) else some V) = some v := by
          by_cases h : fAr f = true
          · have h' : f.2.2.2.2.2.2.2.2.2.2.1 = true := h
            have hR := hFB.R
            have hva : f.2.2.2.2.1 + (a : Int) = v := by have := (ha2 h).1; show fLo f + (a : Int) = v; omega
            rw [if_pos h', hva, ckS (by omega) (by omega), Option.bind_some]
          · have h' : ¬ f.2.2.2.2.2.2.2.2.2.2.1 = true := h
            rw [if_neg h', ha3 (Bool.eq_false_iff.2 h)]
        have hq1 : (if decide ((i0 : Int) < 0) = false then some (decide ((i0 : Int) ≥ a_h m.1)) else some true) = some false := by
          rw [decide_eq_false (by omega), if_pos rfl, a_O, decide_eq_false (by omega)]
        have hco' : f.2.2.2.2.2.2.2.2.2.1 = false := hco
        have hj0' : ¬ (j0 : Int) ≥ f.2.2.2.2.2.2.2.1 := by
          have : ¬ (j0 : Int) ≥ fC f := by omega
          exact this
        have hlo : ¬ v < f.2.2.2.2.1 := by
          have : ¬ v < fLo f := by omega
          exact this
        have hhi : ¬ v > f.2.2.2.2.2.1 := by
          have : ¬ v > fHi f := by omega
          exact this
        have hV : (if f.2.2.2.2.2.2.2.2.2.2.1 = true then some (V != 1) else some false) = some false := by
          by_cases h : fAr f = true
          · have h' : f.2.2.2.2.2.2.2.2.2.2.1 = true := h
            rw [if_pos h', (ha2 h).2, bne_self_eq_false]
          · have h' : ¬ f.2.2.2.2.2.2.2.2.2.2.1 = true := h
            rw [if_neg h']
        have hat0 : (if f.2.2.2.2.2.2.2.2.2.2.1 = true then some (decide ((a : Int) < 0)) else some false) = some false := by
          rw [decide_eq_false (by omega)]
          split <;> rfl
        rw [hq1, Option.bind_some, if_neg (by decide), hfi, Option.bind_some, h42, Option.bind_some, nmt_eq, hmt, Option.bind_some, if_pos (show (!true) = false from rfl), decide_eq_false (show ¬ (j0 : Int) < 0 by omega), Option.bind_some, if_pos rfl, decide_eq_false hj0', Option.bind_some, if_pos rfl, hco', Option.bind_some, if_pos rfl, hat0, Option.bind_some, Option.bind_some, if_neg (by decide), hnum, Option.bind_some, hV, Option.bind_some, if_pos rfl, decide_eq_false hlo, Option.bind_some, if_pos rfl, decide_eq_false hhi, Option.bind_some, if_pos rfl, h32, Option.bind_some, hfit, Option.bind_some, if_neg (by decide), h33, Option.bind_some, ckS (by omega) (by omega), Option.bind_some, a_3]
        exact e1
      · intro i j g hg hmg hj
        have e3' := e3 i j g hg hmg hj
        rw [a_Q hlt]
        have hsame : (i = i0 ∧ j = j0) → W i j = some (b_U m (wrB m.2.2 b (off f j0) v (fS f).toNat) g j) := by
          rintro ⟨rfl, rfl⟩
          rw [hf] at hg
          obtain rfl := Option.some.inj hg
          rw [numOf_same hb.by_ hE hfit, hWv]
        have hother : ¬ (i = i0 ∧ j = j0) → b_U m (wrB m.2.2 b (off f j0) v (fS f).toNat) g j = b_U m b g j := fun h =>
          numOf_other hb.by_ hE (off_two hp hA hf hg hmt hmg hj0 hj h)
        have hhead : (l[p].1 = (i : Int) ∧ l[p].2.1 = (j : Int)) ↔ (i = i0 ∧ j = j0) := by
          rw [he]
          show ((i0 : Int) = (i : Int) ∧ (j0 : Int) = (j : Int)) ↔ _
          omega
        constructor
        · rintro ⟨e, hm1, hm2⟩
          by_cases hx : ∃ e ∈ l.drop (p + 1), e.1 = (i : Int) ∧ e.2.1 = (j : Int)
          · exact e3'.1 hx
          · rcases List.mem_cons.1 hm1 with rfl | hm1
            · rw [e3'.2 hx]; exact hsame (hhead.1 hm2)
            · exact absurd ⟨e, hm1, hm2⟩ hx
        · intro hx
          have hx2 : ¬ ∃ e ∈ l.drop (p + 1), e.1 = (i : Int) ∧ e.2.1 = (j : Int) := fun ⟨e, q1, q2⟩ => hx ⟨e, List.mem_cons_of_mem _ q1, q2⟩
          rw [e3'.2 hx2]
          exact hother fun h => hx ⟨_, List.mem_cons_self, hhead.2 h⟩
    · rw [c_E (by omega), List.drop_eq_nil_of_le (by omega)]
      exact ⟨b, rfl, hb, fun i j f _ _ _ => ⟨fun ⟨e, h, _⟩ => absurd h List.not_mem_nil, fun _ => rfl⟩⟩
end Go.Proofs.Ythknbcfelkljcaa
