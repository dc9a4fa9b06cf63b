/- Powers in plain words: what may be configured. Plain theorems, no condition. -/
import Derived.Test.YtnelgpgmggcdcaaPP7
set_option linter.unusedVariables false
set_option linter.unusedSimpArgs false
namespace Go.Proofs.Ytnelgpgmggcdcaa
open Go.RowKit

/-- The item, configured with a need. -/
def conf (y : It) (nd : Int) : It := (up y, port y, hub y, self y, true, false, nd)
theorem g_set {l : List It} {i : Nat} (hi : i < l.length) (z : It) (j : Nat) : g (l.set i z) j = if j = i then z else g l j := by
  unfold g
  rw [List.getD_eq_getElem?_getD, List.getD_eq_getElem?_getD, List.getElem?_set]
  by_cases h : i = j
  · subst h; rw [if_pos rfl, if_pos hi, if_pos rfl]; rfl
  · rw [if_neg h, if_neg fun e => h e.symm]
/-- Trees that differ in what items take themselves. -/
structure Like (l l' : List It) : Prop where
  len : l'.length = l.length
  up_ : ∀ j, up (g l' j) = up (g l j)
  self_ : ∀ j, self (g l' j) = self (g l j)
theorem Like.chain {l l' : List It} (h : Like l l') : ∀ (f : Nat) (c : Int), chain l' f c = chain l f c
  | 0, _ => rfl
  | f + 1, c => by
    unfold Go.Proofs.Ytnelgpgmggcdcaa.chain
    split
    · rw [h.up_, h.chain f]
    · rfl
theorem Like.anc {l l' : List It} (h : Like l l') (i : Nat) : anc l' i = anc l i := by
  unfold Go.Proofs.Ytnelgpgmggcdcaa.anc; rw [h.up_, h.chain]
theorem Like.lim {l l' : List It} (h : Like l l') (i : Nat) : lim l' i = lim l i := by
  unfold Go.Proofs.Ytnelgpgmggcdcaa.lim poor; rw [h.up_, h.self_]
theorem Like.wt {l l' : List It} (h : Like l l') (hw : WT l) (hn : ∀ j, j < l.length → 0 ≤ need (g l' j) ∧ need (g l' j) ≤ 500) : WT l' :=
  ⟨by rw [h.len]; exact hw.len, fun i hi => by rw [h.up_]; exact hw.up1 i (by rw [h.len] at hi; exact hi), fun i hi => hn i (by rw [h.len] at hi; exact hi)⟩
theorem like_conf {l : List It} {i : Nat} (hi : i < l.length) (nd : Int) : Like l (l.set i (conf (g l i) nd)) := by
  refine ⟨by simp, fun j => ?_, fun j => ?_⟩ <;> rw [g_set hi] <;> split <;> (try rfl) <;> (rename_i e; subst e; rfl)
theorem wt_conf {l : List It} (h : WT l) {i : Nat} (hi : i < l.length) {nd : Int} (hn : 0 ≤ nd ∧ nd ≤ 500) : WT (l.set i (conf (g l i) nd)) :=
  (like_conf hi nd).wt h fun j hj => by
    rw [g_set hi]
    split
    · exact hn
    · exact h.need1 j hj
/-- What is asked of Admits. -/
def Ask (l : List It) (k : Nat) (nd : Int) : Prop := k < l.length ∧ (0 ≤ nd ∧ nd ≤ 500) ∧ lit l k = true ∧ (0 ≤ up (g l k) → sleep (g l (up (g l k)).toNat) = false)
/-- Item i may be configured with need nd. -/
def admB (l : List It) (i : Nat) (nd : Int) : Bool := (anc l i).all (fun k => !ov false (l.set i (conf (g l i) nd)) k) && !ov false (l.set i (conf (g l i) nd)) i
theorem cpy_all {l : List It} {n : Nat} (h : n = l.length) (z : It) : cpyI (List.replicate n z) l = l := by
  subst h
  unfold cpyI
  rw [List.length_replicate, List.take_length, List.drop_eq_nil_of_le (by rw [List.length_replicate]; omega), List.append_nil]
theorem above_sleep {l : List It} (h : WT l) {k : Nat} (hk : k < l.length) : ((if ((g l k).1 != (-1)) = true then (idx l (g l k).1).bind fun y_49 => some y_49.2.2.2.2.2.1 else some false)) = some (decide (0 ≤ up (g l k)) && sleep (g l (up (g l k)).toNat)) := by
  have hu := h.up1 k hk
  rw [show (g l k).1 = up (g l k) from rfl]
  by_cases h0 : up (g l k) = -1
  · rw [h0]; rfl
  · obtain ⟨u, hu'⟩ : ∃ u : Nat, up (g l k) = u := ⟨(up (g l k)).toNat, by omega⟩
    rw [hu', if_pos (by simp), idx_g (show u < l.length by omega), Option.bind_some, decide_eq_true (by omega), Int.toNat_natCast]; rfl
theorem all_run {n : Nat} (t : (Sl Int) × (Sl Bool)) {N : Nat} (f : Nat → Bool) {c : Option Nat} (ht : t.2 = ⟨tab N f, c⟩) : ∀ (ks : List Nat), (∀ k ∈ ks, k < N) → (ancF (rnd (p22_r1 n t)) ks (0, ())).map (·.2) = some (if ks.all fun k => !f k then (0, ()) else (1, ()))
  | [], _ => rfl
  | k :: ks, hk => by
    have h0 := hk k (by simp)
    unfold ancF
    have e : rnd (p22_r1 n t) (0, ()) (k : Int) = some (if f k then (false, (1, ())) else (true, (0, ()))) := by
      show ((p22_r1 n t () (k : Int)).map _) = _
      unfold p22_r1
      rw [ht, show idx (⟨tab N f, c⟩ : Sl Bool).xs (k : Int) = some (f k) from tab_idx f h0, Option.bind_some]
      cases f k <;> rfl
    rw [e, Option.bind_some]
    cases hf : f k
    · show (ancF (rnd (p22_r1 n t)) ks (0, ())).map (·.2) = _
      rw [all_run t f ht ks (fun q hq => hk q (by simp [hq])), List.all_cons, hf]; rfl
    · rw [List.all_cons, hf]; rfl
theorem p22_bad {l : List It} {cp : Option Nat} (h : Good l) {n : Nat} (hn : 300 ≤ n) {i nd : Int} (hb : ¬ ∃ k : Nat, i = k ∧ Ask l k nd) : p22 n ⟨l, cp⟩ i nd = some (false, 1) := by
  have hw := h.wt
  unfold p22
  rw [p17_good h hn, Option.bind_some, if_neg (by decide), lenI_mk, orS, Option.bind_some, orS, Option.bind_some, orS, Option.bind_some]
  by_cases hc : (decide (i < 0) || decide (i ≥ (l.length : Int)) || decide (nd < 0) || decide (nd > 500)) = true
  · rw [hc, if_neg (by decide), Option.bind_some, if_neg (by decide), Option.bind_some, if_pos rfl]
  · have hc' : (decide (i < 0) || decide (i ≥ (l.length : Int)) || decide (nd < 0) || decide (nd > 500)) = false := by simpa using hc
    rw [hc', if_pos rfl]
    simp only [Bool.or_eq_false_iff, decide_eq_false_iff_not] at hc'
    obtain ⟨k, rfl⟩ : ∃ k : Nat, i = k := ⟨i.toNat, by omega⟩
    have hk : k < l.length := by omega
    rw [p31_eq hw hn hk, Option.bind_some, Option.bind_some, show idx (⟨l, cp⟩ : Sl It).xs (k : Int) = some (g l k) from idx_g hk]
    cases hl : lit l k with
    | false => rw [if_neg (by decide), Option.bind_some, if_pos rfl]
    | true =>
      have ha := above_sleep hw hk
      rw [if_pos (by rfl), Option.bind_some]
      rw [Option.bind_some, ha, Option.bind_some, Option.bind_some]
      rw [if_pos]
      refine Bool.and_eq_true_iff.2 ?_
      by_cases h0 : 0 ≤ up (g l k) ∧ sleep (g l (up (g l k)).toNat) = true
      · exact ⟨decide_eq_true h0.1, h0.2⟩
      · exact absurd ⟨k, rfl, hk, ⟨by omega, by omega⟩, hl, fun h1 => by
          cases hs : sleep (g l (up (g l k)).toNat)
          · rfl
          · exact absurd ⟨h1, hs⟩ h0⟩ hb
theorem p22_ok {l : List It} {cp : Option Nat} (h : Good l) {n : Nat} (hn : 300 ≤ n) {k : Nat} {nd : Int} (hA : Ask l k nd) : p22 n ⟨l, cp⟩ k nd = some (admB l k nd, 0) := by
  have hw := h.wt
  have hlen := h.len
  obtain ⟨hk, hnd, hl, ha⟩ := hA
  unfold p22
  rw [p17_good h hn, Option.bind_some, if_neg (by decide), lenI_mk, orS, Option.bind_some, orS, Option.bind_some, orS, Option.bind_some]
  rw [show (decide ((k : Int) < 0) || decide ((k : Int) ≥ (l.length : Int)) || decide (nd < 0) || decide (nd > 500)) = false by simp only [Bool.or_eq_false_iff, decide_eq_false_iff_not]; omega]
  have has := above_sleep hw hk
  rw [if_pos rfl, p31_eq hw hn hk, Option.bind_some, Option.bind_some, show idx (⟨l, cp⟩ : Sl It).xs (k : Int) = some (g l k) from idx_g hk, hl, if_pos (by rfl), Option.bind_some, Option.bind_some, has, Option.bind_some, Option.bind_some]
  rw [if_neg (by
    rw [Bool.and_eq_true, decide_eq_true_eq]
    rintro ⟨h1, h2⟩
    rw [ha h1] at h2; cases h2)]
  rw [mkI_ok (by omega) (by omega) (by omega), Option.bind_some, Int.toNat_natCast]
  dsimp only
  rw [cpy_all rfl, idx_g hk, Option.bind_some]
  have is : ∀ z : It, idx (l.set k z) (k : Int) = some z := fun z => by rw [idx_nat]; simp [hk]
  rw [Int.toNat_natCast, is, Option.bind_some, List.set_set, is, Option.bind_some, List.set_set]
  show ((p27 n (⟨l.set k (conf (g l k) nd), some l.length⟩ : Sl It) false).bind _) = _
  have hm := wt_conf hw hk hnd
  have hlike := like_conf hk nd
  rw [p27_eq hm hn, Option.bind_some]
  unfold p32
  rw [Option.bind_some]
  have hkm : k < (l.set k (conf (g l k) nd)).length := by rw [hlike.len]; exact hk
  show ((p37 n (⟨l.set k (conf (g l k) nd), some l.length⟩ : Sl It) (k : Int) (Nat × Unit) _ (0, ())).bind _) = _
  rw [p37_eq hm hn hkm, all_run (N := (l.set k (conf (g l k) nd)).length) _ _ rfl _ (fun q hq => by have := anc_lt hm k hkm q hq; omega), Option.bind_some, hlike.anc]
  unfold admB
  cases hall : (anc l k).all fun q => !ov false (l.set k (conf (g l k) nd)) q
  · rfl
  · rw [if_pos rfl, if_neg (by decide)]
    rw [show idx (⟨tab (l.set k (conf (g l k) nd)).length (ov false (l.set k (conf (g l k) nd))), some (l.set k (conf (g l k) nd)).length⟩ : Sl Bool).xs (k : Int) = some (ov false (l.set k (conf (g l k) nd)) k) from tab_idx _ hkm, Option.bind_some, Bool.true_and]
/-- What is accepted is accepted with every smaller need. -/
theorem sumP_le {p : Nat → Prop} [DecidablePred p] {h k : Nat → Int} : ∀ (n a : Nat), (∀ j, a ≤ j → j < a + n → p j → h j ≤ k j) → sumP p h n a ≤ sumP p k n a
  | 0, _, _ => Int.le_refl _
  | n + 1, a, e => by
    unfold sumP
    have := sumP_le (p := p) (h := h) (k := k) n (a + 1) fun j h1 h2 => e j (by omega) (by omega)
    split
    · rename_i hp; have := e a (Nat.le_refl _) (by omega) hp; omega
    · omega
theorem Like.mono {l l' : List It} (h : Like l l') (hl : l.length ≤ 200) (hlit : ∀ j, lit l' j = lit l j) (ho : ∀ j, own (g l' j) ≤ own (g l j)) : ∀ (f i : Nat), i < l.length → l.length - i ≤ f → TL false l' i ≤ TL false l i ∧ raw l' (lphi false l') i ≤ raw l (lphi false l) i
  | 0, i, hi, hf => absurd hf (by omega)
  | f + 1, i, hi, hf => by
    have hr : raw l' (lphi false l') i ≤ raw l (lphi false l) i := by
      unfold raw
      rw [h.self_, h.len]
      have := ho i
      split
      · omega
      · have hs : sumP (kid l' i) (T l' (lphi false l')) (l.length - (i + 1)) (i + 1) ≤ sumP (kid l i) (T l (lphi false l)) (l.length - (i + 1)) (i + 1) := by
          rw [sumP_congr (p := kid l' i) (q := kid l i) (k := T l' (lphi false l')) _ _ fun j _ _ => ⟨by show up (g l' j) = _ ↔ up (g l j) = _; rw [h.up_], fun _ => rfl⟩]
          exact sumP_le _ _ fun j a b _ => (h.mono hl hlit ho f j (by omega) (by omega)).1
        omega
    refine ⟨?_, hr⟩
    show T l' _ i ≤ T l _ i
    rw [T_eq (by rw [h.len]; exact hl) (by rw [h.len]; exact hi), T_eq hl hi, lphi_false, lphi_false, hlit]
    split
    · exact hr
    · exact Int.le_refl _
theorem lit_conf {l : List It} {i : Nat} (hi : i < l.length) (nd nd' : Int) (j : Nat) : lit (l.set i (conf (g l i) nd')) j = lit (l.set i (conf (g l i) nd)) j := by
  unfold lit
  rw [(like_conf hi nd').anc, (like_conf hi nd).anc]
  congr 1
  funext k
  rw [g_set hi, g_set hi]
  split <;> rfl
theorem ov_mono {l : List It} (h : WT l) {i : Nat} (hi : i < l.length) {nd nd' : Int} (hle : nd' ≤ nd) {k : Nat} (hk : k < l.length) (ho : ov false (l.set i (conf (g l i) nd')) k = true) : ov false (l.set i (conf (g l i) nd)) k = true := by
  have h1 := like_conf hi nd
  have h2 := like_conf hi nd'
  have hL : Like (l.set i (conf (g l i) nd)) (l.set i (conf (g l i) nd')) := ⟨by rw [h1.len, h2.len], fun j => by rw [h1.up_, h2.up_], fun j => by rw [h1.self_, h2.self_]⟩
  have := (hL.mono (by rw [h1.len]; exact h.len) (fun j => lit_conf hi nd nd' j) (fun j => by
    rw [g_set hi, g_set hi]
    split
    · exact hle
    · exact Int.le_refl _) _ k (by rw [h1.len]; exact hk) (Nat.le_refl _)).2
  unfold ov at ho ⊢
  rw [Bool.and_eq_true, decide_eq_true_eq] at ho ⊢
  rw [lit_conf hi nd nd', hL.lim] at ho
  exact ⟨ho.1, by omega⟩
theorem adm_mono {l : List It} (h : WT l) {i : Nat} (hi : i < l.length) {nd nd' : Int} (hle : nd' ≤ nd) (ha : admB l i nd = true) : admB l i nd' = true := by
  unfold admB at ha ⊢
  rw [Bool.and_eq_true, List.all_eq_true] at ha ⊢
  refine ⟨fun k hk => ?_, ?_⟩
  · have := ha.1 k hk
    cases ho : ov false (l.set i (conf (g l i) nd')) k
    · rfl
    · rw [ov_mono h hi hle (by have := anc_lt h i hi k hk; omega) ho] at this; exact this
  · cases ho : ov false (l.set i (conf (g l i) nd')) i
    · rfl
    · rw [ov_mono h hi hle hi ho] at ha; exact ha.2
end Go.Proofs.Ytnelgpgmggcdcaa
