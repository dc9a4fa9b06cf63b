/- Suspends: the law of those that are awake, in plain words. Plain theorems, no condition. -/
import Derived.Test.YtflieonbbggmhaaSU7
import Derived.Test.YtflieonbbggmhaaPa1
import Derived.Test.YtflieonbbggmhaaXE16
set_option linter.unusedVariables false
set_option linter.unusedSimpArgs false
namespace Go.Proofs.Ytflieonbbggmhaa
open Go.RowKit

set_option maxRecDepth 1000000 in
theorem lives3 : p8 6000 = some true := by kernel_rfl
structure Good9 (l J : List Nd) (r : Sl Nd × Sl Ord × Int) : Prop where
  v : V r.1.xs
  vJ : V J
  run : okRun J (old l) r.2.1.xs
  fin : ∀ x ∈ r.1.xs, (∃ y ∈ J, pa y = pa x) ∧ endF (old l) r.2.1.xs (pa x) = asl x
  few : r.2.1.xs.length ≤ 200
  short : ∀ q ∈ r.2.1.xs, q.1.xs.length ≤ 200
theorem hasP_wak {l : List Nd} (hV : V l) (p : List Int) {x : Nd} (hx : x ∈ l) : hasP (l.filter (wak p)) (pa x) = wak p x := by
  cases e : wak p x with
  | true => exact hasP_true.2 ⟨x, List.mem_filter.2 ⟨hx, e⟩, rfl⟩
  | false =>
    cases e2 : hasP (l.filter (wak p)) (pa x) with
    | false => rfl
    | true =>
      obtain ⟨z, hz, hzp⟩ := hasP_true.1 e2
      obtain ⟨hz1, hz2⟩ := List.mem_filter.1 hz
      rw [sorted_uniq hV.sorted z hz1 x hx hzp, e] at hz2
      cases hz2
theorem wakes_ok {l J : List Nd} (hV : V l) (hJ : ∀ x ∈ l, ∃ y ∈ J, pa y = pa x) (p : List Int) : okRun J (old l) (ords p l) ∧ ∀ s, endF (old l) (ords p l) s = (old l s && !hasP (l.filter (wak p)) s) := by
  obtain ⟨h1, h2⟩ := wake_run hV hJ p (l.filter (wak p)) [] rfl
  have e : ∀ s, (old l s && !hasP [] s) = old l s := fun s => by rw [show hasP [] s = false from rfl]; simp
  exact ⟨okRun_congr _ _ _ e h1, fun s => (endF_congr _ _ _ (fun s => (e s).symm) s).trans (h2 s)⟩
theorem wakes_at {l J : List Nd} (hV : V l) (hJ : ∀ x ∈ l, ∃ y ∈ J, pa y = pa x) (p : List Int) {x : Nd} (hx : x ∈ l) : endF (old l) (ords p l) (pa x) = (asl x && !wak p x) := by
  rw [(wakes_ok hV hJ p).2, old_of hV.sorted hx, hasP_wak hV p hx]
theorem ords_few {l : List Nd} (hV : V l) (p : List Int) : (ords p l).length ≤ 200 ∧ ∀ q ∈ ords p l, q.1.xs.length ≤ 200 := by
  constructor
  · unfold ords
    rw [List.length_map]
    have := List.length_filter_le (wak p) l
    have := hV.len
    omega
  · intro q hq
    unfold ords at hq
    obtain ⟨x, hx, rfl⟩ := List.mem_map.1 hq
    have := hV.plen x (List.mem_filter.1 hx).1
    show (pa x).length ≤ 200; omega
theorem mem_putL {l : List Nd} {p : List Int} {wk : Bool} {x : Nd} (hx : x ∈ l) : ∃ y ∈ putL l p wk, pa y = pa x := by
  have hm : awN p (ownN x) ∈ l.map (fun x => awN p (ownN x)) := List.mem_map_of_mem hx
  rw [← List.take_append_drop (bef p l) (l.map fun x => awN p (ownN x))] at hm
  refine ⟨ownN (awN p (ownN x)), ?_, by show pa (awN p (ownN x)) = _; rw [awN_pa]; rfl⟩
  unfold putL
  refine List.mem_map_of_mem ?_
  rcases List.mem_append.1 hm with h | h
  · exact List.mem_append_left _ h
  · exact List.mem_append_right _ (List.mem_cons_of_mem _ h)
theorem putL_mem {l : List Nd} {p : List Int} {wk : Bool} {y : Nd} (hy : y ∈ putL l p wk) : (pa y = p ∧ asl y = false) ∨ ∃ x ∈ l, pa y = pa x ∧ asl y = (asl x && !wak p x) := by
  unfold putL at hy
  obtain ⟨z, hz, rfl⟩ := List.mem_map.1 hy
  have old_ : ∀ z, z ∈ l.map (fun x => awN p (ownN x)) → ∃ x ∈ l, pa (ownN z) = pa x ∧ asl (ownN z) = (asl x && !wak p x) := fun z hz => by
    obtain ⟨x, hx, rfl⟩ := List.mem_map.1 hz
    exact ⟨x, hx, by show pa (awN p (ownN x)) = _; rw [awN_pa]; rfl, by show asl (awN p (ownN x)) = _; rw [awN_asl]; rfl⟩
  rcases List.mem_append.1 hz with hz | hz
  · exact .inr (old_ z (List.mem_of_mem_take hz))
  · rcases List.mem_cons.1 hz with rfl | hz
    · exact .inl ⟨rfl, rfl⟩
    · exact .inr (old_ z (List.mem_of_mem_drop hz))
theorem wak_useN {p : List Int} (b : Bool) {x : Nd} : wak p (useN b p x) = wak p x := by
  unfold wak
  rw [useN_pa, useN_asl]
theorem p9_full {n : Nat} (hn : 300 ≤ n) {l : List Nd} {c : Option Nat} (h : V l) {a : Int × Int × Bool × Int} (ha : okA a) : ∃ r, p9 n ⟨l, c⟩ a = some r ∧ (r.2.2 = 0 → Good9 l (if a.1 % 8 < 2 then r.1.xs else l) r) := by
  obtain ⟨a1, a2, a3⟩ := ha
  obtain ⟨p, hp, hok⟩ := p20_eq (n := n) a2
  have hpl : p.xs.length ≤ 200 := by have := hok.1.2; omega
  have hself : ∀ x ∈ l, ∃ y ∈ l, pa y = pa x := fun x hx => ⟨x, hx, rfl⟩
  have h8 := Int.emod_nonneg a.1 (show (8 : Int) ≠ 0 by decide)
  unfold p9
  rw [hp, Option.bind_some, rem8 a1 (by decide), Option.bind_some]
  generalize a.1 % 8 = w at h8 ⊢
  by_cases h0 : w = 0
  · have ew : ∀ r : Sl Nd × Sl Ord × Int, (if w < 2 then r.1.xs else l) = r.1.xs := fun r => if_pos (by omega)
    simp only [ew]
    rw [if_pos (by rw [h0]; rfl)]
    by_cases hf : Fits l p.xs
    · rw [p15_ok hn h hf]
      have hJ : ∀ x ∈ l, ∃ y ∈ putL l p.xs a.2.2.1, pa y = pa x := fun x hx => mem_putL hx
      refine ⟨_, rfl, fun _ => ⟨h.put hf _, h.put hf _, (wakes_ok h hJ p.xs).1, fun y hy => ⟨⟨y, hy, rfl⟩, ?_⟩, (ords_few h p.xs).1, (ords_few h p.xs).2⟩⟩
      rcases putL_mem hy with ⟨e1, e2⟩ | ⟨x, hx, e1, e2⟩
      · rw [e1, e2]
        show endF (old l) (ords p.xs l) p.xs = false
        rw [(wakes_ok h hJ p.xs).2, old_none hf.new]; rfl
      · rw [e1, e2]
        exact wakes_at h hJ p.xs hx
    · obtain ⟨e, he, h1, _⟩ := p15_bad hn (c := c) h hpl hf a.2.2.1
      rw [h1]; exact ⟨_, rfl, fun q => absurd q he⟩
  · rw [if_neg (by simpa using h0)]
    by_cases h1 : w = 1
    · have ew : ∀ r : Sl Nd × Sl Ord × Int, (if w < 2 then r.1.xs else l) = r.1.xs := fun r => if_pos (by omega)
      simp only [ew]
      rw [if_pos (by rw [h1]; rfl)]
      rcases p16_eq hn (c := c) h hpl with ⟨_, e⟩ | ⟨_, e⟩
      · rw [e]; exact ⟨_, rfl, fun q => absurd q (by decide)⟩
      · rw [e]
        refine ⟨_, rfl, fun _ => ⟨h.take _, h.take _, trivial, fun y hy => ⟨⟨y, hy, rfl⟩, ?_⟩, Nat.zero_le _, fun q hq => by cases hq⟩⟩
        obtain ⟨x, hx, rfl⟩ := List.mem_map.1 hy
        show old l (pa x) = asl x
        exact old_of h.sorted (List.mem_filter.1 hx).1
    · rw [if_neg (by simpa using h1)]
      have ew : ∀ r : Sl Nd × Sl Ord × Int, (if w < 2 then r.1.xs else l) = l := fun r => if_neg (by omega)
      simp only [ew]
      have ej : (if (w == 2) = true then some (w == 2) else some (w == 3)) = some (w == 2 || w == 3) := by cases (w == 2) <;> rfl
      rw [ej, Option.bind_some]
      cases hj : (w == 2 || w == 3) with
      | true =>
        rw [if_pos rfl]
        rcases p17_eq hn (c := c) h hpl a.2.2.1 with ⟨_, e⟩ | ⟨_, e⟩
        · rw [e]; exact ⟨_, rfl, fun q => absurd q (by decide)⟩
        · rw [e]
          cases a.2.2.1
          · refine ⟨_, rfl, fun _ => ⟨h.free _, h, trivial, fun y hy => ?_, Nat.zero_le _, fun q hq => by cases hq⟩⟩
            obtain ⟨x, hx, rfl⟩ := List.mem_map.1 hy
            refine ⟨⟨x, hx, (useN_pa _ _ x).symm⟩, ?_⟩
            rw [useN_pa, useN_asl]
            exact old_of h.sorted hx
          · refine ⟨_, rfl, fun _ => ⟨h.use _, h, (wakes_ok h hself p.xs).1, fun y hy => ?_, (ords_few h p.xs).1, (ords_few h p.xs).2⟩⟩
            obtain ⟨x, hx, rfl⟩ := List.mem_map.1 hy
            refine ⟨⟨x, hx, by rw [awN_pa, useN_pa]⟩, ?_⟩
            rw [awN_pa, useN_pa, awN_asl, useN_asl, wak_useN]
            exact wakes_at h hself p.xs hx
      | false =>
        rw [if_neg (by decide)]
        by_cases h4 : w = 4
        · rw [if_pos (by rw [h4]; rfl)]
          rcases p18_eq hn (c := c) h hpl with ⟨_, e⟩ | ⟨x, _, _, e⟩
          · rw [e]; exact ⟨_, rfl, fun q => absurd q (by decide)⟩
          · rw [e]
            cases (asl x && x.2.2.1)
            · exact ⟨_, rfl, fun q => absurd (show (6 : Int) = 0 from q) (by decide)⟩
            · refine ⟨_, rfl, fun _ => ⟨h.wake _, h, (wakes_ok h hself p.xs).1, fun y hy => ?_, (ords_few h p.xs).1, (ords_few h p.xs).2⟩⟩
              obtain ⟨x, hx, rfl⟩ := List.mem_map.1 hy
              refine ⟨⟨x, hx, by rw [awN_pa]; rfl⟩, ?_⟩
              rw [awN_pa, awN_asl]
              show endF (old l) (ords p.xs l) (pa x) = (asl x && !wak p.xs x)
              exact wakes_at h hself p.xs hx
        · rw [if_neg (by simpa using h4), rem8 a3 (by decide), Option.bind_some, p12_eq hn h (by omega)]
          by_cases h5 : a.2.2.2 % 5 < 1
          · rw [if_pos h5]; exact ⟨_, rfl, fun q => absurd q (by decide)⟩
          · rw [if_neg h5]
            generalize a.2.2.2 % 5 = k at h5 ⊢
            obtain ⟨r1, r2⟩ := sleep_run h k rfl (l.reverse.filter (falls l k)) [] rfl
            have e0 : ∀ s, (old l s || hasP [] s) = old l s := fun s => by rw [show hasP [] s = false from rfl]; simp
            have hfew : (sleeps l k l).length ≤ 200 := by
              unfold sleeps
              rw [List.length_map]
              have := List.length_filter_le (falls l k) l.reverse
              rw [List.length_reverse] at this
              have := h.len
              omega
            refine ⟨_, rfl, fun _ => ⟨h.tick _, h, okRun_congr _ _ _ e0 r1, fun y hy => ?_, hfew, fun q hq => ?_⟩⟩
            · obtain ⟨x, hx, rfl⟩ := List.mem_map.1 hy
              refine ⟨⟨x, hx, (tickN_pa _ _ x).symm⟩, ?_⟩
              rw [tickN_pa]
              refine ((endF_congr _ _ _ (fun s => (e0 s).symm) (pa x)).trans (r2 (pa x))).trans ?_
              rw [old_of h.sorted hx]
              have ef : hasP (l.reverse.filter (falls l k)) (pa x) = falls l k x := by
                cases e : falls l k x with
                | true => exact hasP_true.2 ⟨x, List.mem_filter.2 ⟨List.mem_reverse.2 hx, e⟩, rfl⟩
                | false =>
                  cases e2 : hasP (l.reverse.filter (falls l k)) (pa x) with
                  | false => rfl
                  | true =>
                    obtain ⟨z, hz, hzp⟩ := hasP_true.1 e2
                    obtain ⟨hz1, hz2⟩ := List.mem_filter.1 hz
                    rw [sorted_uniq h.sorted z (List.mem_reverse.1 hz1) x hx hzp, e] at hz2
                    cases hz2
              rw [ef]
              unfold falls tickN
              cases hxa : asl x with
              | true => rw [if_pos rfl]; exact hxa.symm
              | false =>
                rw [if_neg (by decide)]
                cases hxn : needB l x with
                | true => rw [if_pos rfl]; exact hxa.symm
                | false =>
                  rw [if_neg (by decide)]
                  by_cases hq : qt x ≥ k - 1
                  · rw [if_pos hq, decide_eq_true hq]; rfl
                  · rw [if_neg hq, decide_eq_false hq]; exact hxa.symm
            · obtain ⟨x, hx, rfl⟩ := List.mem_map.1 hq
              have := h.plen x (List.mem_reverse.1 (List.mem_filter.1 hx).1)
              show (pa x).length ≤ 200; omega
/-! ### The loops -/
theorem set_upd {J : List Nd} (hs : J.Pairwise fun x y => pa x < pa y) (F : List Int → Bool) {t : Nat} (ht : t < J.length) (b : Bool) : (J.map fun x => F (pa x)).set t b = J.map fun x => updF F (pa J[t]) b (pa x) := by
  refine List.ext_getElem (by simp) fun i h1 h2 => ?_
  have hi : i < J.length := by simpa using h2
  rw [List.getElem_set, List.getElem_map, List.getElem_map]
  by_cases e : t = i
  · subst e; rw [if_pos rfl, updF_same]
  · rw [if_neg e, updF_other]
    intro q
    exact e (sorted_eq hs ht hi q.symm)
theorem idx_map {J : List Nd} (F : Nd → Bool) {i : Nat} (h : i < J.length) : idx (J.map F) (i : Int) = some (F J[i]) := by
  rw [idxE (by rw [List.length_map]; exact h), List.getElem_map]
theorem p3_l2_eq {n : Nat} (hn : 300 ≤ n) {l : Sl Nd} {J : List Nd} {c : Option Nat} (hV : V l.xs) (hJ : V J) : ∀ (m k : Nat), k ≤ J.length → J.length - k < m →
    p3_l2 n l ⟨J, c⟩ m k ((J.take k).map (fun x => old l.xs (pa x)) ++ List.replicate (J.length - k) false) = some (J.map fun x => old l.xs (pa x))
  | 0, k, _, h => absurd h (by omega)
  | m + 1, k, hk, hm => by
    have hl := hV.len
    have hj := hJ.len
    unfold p3_l2
    rw [lenI_mk]
    by_cases hlt : k < J.length
    · have hp := hJ.plen _ (List.getElem_mem hlt)
      have htk : ((J.take k).map fun x => old l.xs (pa x)).length = k := by rw [List.length_map, List.length_take]; omega
      have eq : ∃ t, p10 n l J[k].1 = some t ∧ (if decide (t ≥ 0) = true then (idx l.xs t).bind fun y_85 => some y_85.2.2.2.1 else some false) = some (old l.xs (pa J[k])) := by
        rcases p10_eq hn (l := l.xs) (c := l.cap) (p := J[k].1) (by omega) (by show (pa J[k]).length ≤ 200; omega) with ⟨e1, e2⟩ | ⟨j, hj2, e1, e2⟩
        · exact ⟨-1, e1, by rw [if_neg (by decide), show old l.xs (pa J[k]) = false from old_none e2]⟩
        · refine ⟨j, e1, ?_⟩
          rw [if_pos (by rw [decide_eq_true_eq]; omega), idxE hj2, Option.bind_some, show pa J[k] = pa l.xs[j] from e2.symm, old_of hV.sorted (List.getElem_mem hj2)]; rfl
      obtain ⟨t, e1, e2⟩ := eq
      have hr : List.replicate (J.length - k) false = false :: List.replicate (J.length - (k + 1)) false := by
        rw [show J.length - k = (J.length - (k + 1)) + 1 by omega, List.replicate_succ]
      have hmid : ∀ (z : Bool) (b : List Bool), idx ((J.take k).map (fun x => old l.xs (pa x)) ++ z :: b) (k : Int) = some z := fun z b => by
        rw [idx_nat, List.getElem?_append_right (by omega), htk, Nat.sub_self]; rfl
      rw [if_pos (decide_eq_true (show (k : Int) < (J.length : Int) by omega)), show idx (⟨J, c⟩ : Sl Nd).xs (k : Int) = some J[k] from idxE hlt, Option.bind_some, e1, Option.bind_some, e2, Option.bind_some, hr, hmid, Option.bind_some, ckS (by omega) (by omega), Option.bind_some, Int.toNat_natCast, set_mid _ _ _ _ htk.symm, castS]
      have := p3_l2_eq hn (c := c) hV hJ m (k + 1) (by omega) (by omega)
      rw [List.take_succ_eq_append_getElem hlt, List.map_append, List.append_assoc] at this
      exact this
    · obtain rfl : k = J.length := by omega
      rw [if_neg (by rw [decide_eq_true_eq]; omega), List.take_length, Nat.sub_self, List.replicate_zero, List.append_nil]
theorem p3_l4_eq {n : Nat} (hn : 300 ≤ n) {J : List Nd} {c : Option Nat} (hJ : V J) {A : List Bool} {t : Nat} (ht : t < J.length) {y : Ord} {G : List Int → Bool} (hA : A.set ((t : Int)).toNat (!y.2) = J.map fun x => G (pa x))
    (hG : ∀ z ∈ J, ¬ (G (pa J[t]) = true ∧ G (pa z) = false ∧ thr (pa z) (pa J[t])) ∧ ¬ (G (pa z) = true ∧ G (pa J[t]) = false ∧ thr (pa J[t]) (pa z))) : ∀ (m k : Nat), k ≤ J.length → J.length - k < m → p3_l4 n ⟨J, c⟩ A t y m k = some (.inl ())
  | 0, k, _, h => absurd h (by omega)
  | m + 1, k, hk, hm => by
    have hj := hJ.len
    unfold p3_l4
    rw [lenI_mk, hA]
    by_cases hlt : k < J.length
    · have hp := hJ.plen _ (List.getElem_mem hlt)
      have hpt := hJ.plen _ (List.getElem_mem ht)
      obtain ⟨g1, g2⟩ := hG _ (List.getElem_mem hlt)
      rw [if_pos (decide_eq_true (show (k : Int) < (J.length : Int) by omega)), idx_map _ ht, Option.bind_some, idx_map _ hlt, Option.bind_some, andS, Option.bind_some, show idx (⟨J, c⟩ : Sl Nd).xs (t : Int) = some J[t] from idxE ht, Option.bind_some, show idx (⟨J, c⟩ : Sl Nd).xs (k : Int) = some J[k] from idxE hlt, Option.bind_some, p11_eq hn _ _ (by show (pa J[t]).length ≤ 200; omega), Option.bind_some, andS, Option.bind_some, Option.bind_some, Option.bind_some, andS, Option.bind_some, Option.bind_some, Option.bind_some, p11_eq hn _ _ (by show (pa J[k]).length ≤ 200; omega), Option.bind_some, andS, Option.bind_some]
      have e1 : (G (pa J[t]) && !G (pa J[k]) && decide (thr J[k].1.xs J[t].1.xs)) = false := by
        cases e : (G (pa J[t]) && !G (pa J[k]) && decide (thr J[k].1.xs J[t].1.xs)) with
        | false => rfl
        | true =>
          simp only [Bool.and_eq_true, Bool.not_eq_true', decide_eq_true_eq] at e
          exact absurd ⟨e.1.1, e.1.2, e.2⟩ g1
      have e2 : (G (pa J[k]) && !G (pa J[t]) && decide (thr J[t].1.xs J[k].1.xs)) = false := by
        cases e : (G (pa J[k]) && !G (pa J[t]) && decide (thr J[t].1.xs J[k].1.xs)) with
        | false => rfl
        | true =>
          simp only [Bool.and_eq_true, Bool.not_eq_true', decide_eq_true_eq] at e
          exact absurd ⟨e.1.1, e.1.2, e.2⟩ g2
      rw [e1, if_pos rfl, e2, Option.bind_some, if_neg (by decide), ckS (by omega) (by omega), Option.bind_some, castS]
      exact p3_l4_eq hn hJ ht hA hG m (k + 1) (by omega) (by omega)
    · rw [if_neg (by rw [decide_eq_true_eq]; omega)]
theorem p3_l3_eq {n : Nat} (hn : 300 ≤ n) {r : Sl Nd × Sl Ord × Int} {J : List Nd} {c : Option Nat} (hJ : V J) (hf : r.2.1.xs.length ≤ 200) (hsh : ∀ q ∈ r.2.1.xs, q.1.xs.length ≤ 200) : ∀ (m k : Nat) (F : List Int → Bool), k ≤ r.2.1.xs.length → r.2.1.xs.length - k < m → okRun J F (r.2.1.xs.drop k) →
    p3_l3 n r ⟨J, c⟩ m k (J.map fun x => F (pa x)) = some (.inl (J.map fun x => endF F (r.2.1.xs.drop k) (pa x)))
  | 0, k, _, _, h, _ => absurd h (by omega)
  | m + 1, k, F, hk, hm, hrun => by
    have hj := hJ.len
    unfold p3_l3
    rw [len_def]
    by_cases hlt : k < r.2.1.xs.length
    · rw [drop_cons hlt] at hrun ⊢
      obtain ⟨⟨x, hx, hxp⟩, h2, h3, h4⟩ := hrun
      have hxp : pa x = r.2.1.xs[k].1.xs := hxp
      have h2 : F r.2.1.xs[k].1.xs = r.2.1.xs[k].2 := h2
      rcases p10_eq hn (l := J) (c := c) (p := r.2.1.xs[k].1) (by omega) (hsh _ (List.getElem_mem hlt)) with ⟨_, e2⟩ | ⟨t, ht, e1, e2⟩
      · exact absurd hxp (e2 x hx)
      · have hset := set_upd hJ.sorted F ht (!r.2.1.xs[k].2)
        rw [e2] at hset
        have hupd : updF F r.2.1.xs[k].1.xs (!r.2.1.xs[k].2) r.2.1.xs[k].1.xs = !r.2.1.xs[k].2 := updF_same _ _ _
        have h4l := p3_l4_eq hn (c := c) hJ ht (A := J.map fun x => F (pa x)) (y := r.2.1.xs[k]) (G := updF F r.2.1.xs[k].1.xs (!r.2.1.xs[k].2)) hset (fun z hz => by
          rw [e2, hupd]
          exact h3 z hz) n 0 (Nat.zero_le _) (by omega)
        rw [if_pos (decide_eq_true (show (k : Int) < (r.2.1.xs.length : Int) by omega)), idxE hlt, Option.bind_some, e1, Option.bind_some, if_pos (by rw [decide_eq_false_iff_not]; omega), idx_map _ ht, Option.bind_some, Option.bind_some, Option.bind_some, e2, h2, beq_self_eq_true, Bool.not_true, if_neg (by decide), Option.bind_some, Option.bind_some]
        rw [show p3_l4 n (⟨J, c⟩ : Sl Nd) (J.map fun x => F (pa x)) (t : Int) r.2.1.xs[k] n 0 = _ from h4l, Option.bind_some, lrKl, ckS (by omega) (by omega), Option.bind_some, castS, Int.toNat_natCast, hset]
        exact p3_l3_eq hn hJ hf hsh m (k + 1) _ (by omega) (by omega) h4
    · rw [if_neg (by rw [decide_eq_true_eq]; omega), List.drop_eq_nil_of_le (by omega)]
      rfl
theorem p3_l5_eq {n : Nat} (hn : 300 ≤ n) {r : Sl Nd × Sl Ord × Int} {J : List Nd} {c : Option Nat} (hJ : V J) (hV : V r.1.xs) {G : List Int → Bool} (hfin : ∀ x ∈ r.1.xs, (∃ y ∈ J, pa y = pa x) ∧ G (pa x) = asl x) : ∀ (m k : Nat), k ≤ r.1.xs.length → r.1.xs.length - k < m →
    p3_l5 n r ⟨J, c⟩ (J.map fun x => G (pa x)) m k = some (.inl ())
  | 0, k, _, h => absurd h (by omega)
  | m + 1, k, hk, hm => by
    have hj := hJ.len
    have hl := hV.len
    unfold p3_l5
    rw [len_def]
    by_cases hlt : k < r.1.xs.length
    · have hp := hV.plen _ (List.getElem_mem hlt)
      obtain ⟨⟨x, hx, hxp⟩, hg⟩ := hfin _ (List.getElem_mem hlt)
      have hba := (hV.ok _ (List.getElem_mem hlt)).2.2.1
      rcases p10_eq hn (l := J) (c := c) (p := r.1.xs[k].1) (by omega) (by show (pa r.1.xs[k]).length ≤ 200; omega) with ⟨_, e2⟩ | ⟨t, ht, e1, e2⟩
      · exact absurd hxp (e2 x hx)
      · rw [if_pos (decide_eq_true (show (k : Int) < (r.1.xs.length : Int) by omega)), idxE hlt, Option.bind_some, e1, Option.bind_some, if_pos (by rw [decide_eq_false_iff_not]; omega), Option.bind_some, idx_map _ ht, Option.bind_some, e2, show G r.1.xs[k].1.xs = asl r.1.xs[k] from hg, show r.1.xs[k].2.2.2.1 = asl r.1.xs[k] from rfl, beq_self_eq_true, Bool.not_true, Option.bind_some, if_pos rfl, Option.bind_some, Option.bind_some, andS, Option.bind_some, show (r.1.xs[k].2.1 && r.1.xs[k].2.2.2.1) = false from hba, Option.bind_some, if_neg (by decide), ckS (by omega) (by omega), Option.bind_some, castS]
        exact p3_l5_eq hn hJ hV hfin m (k + 1) (by omega) (by omega)
    · rw [if_neg (by rw [decide_eq_true_eq]; omega)]
theorem p3_l1_eq {n : Nat} (hn : 300 ≤ n) {x : Sl (Int × Int × Bool × Int)} (hx : ∀ a ∈ x.xs, okA a) (hl : x.xs.length ≤ 1000000) : ∀ (m k : Nat) (l : Sl Nd), k ≤ x.xs.length → x.xs.length - k < m → V l.xs → p3_l1 n x m k l = some (.inl ())
  | 0, k, l, _, h, _ => absurd h (by omega)
  | m + 1, k, l, hk, hm, hV => by
    unfold p3_l1
    rw [len_def]
    by_cases hlt : k < x.xs.length
    · have ha := hx _ (List.getElem_mem hlt)
      obtain ⟨r, h1, h2⟩ := p9_full hn (c := l.cap) hV ha
      rw [if_pos (decide_eq_true (show (k : Int) < (x.xs.length : Int) by omega)), idxE hlt, Option.bind_some, show p9 n l x.xs[k] = some r from h1, Option.bind_some]
      by_cases he : r.2.2 = 0
      · have hg := h2 he
        rw [if_neg (by rw [he]; decide), Option.bind_some, rem8 ha.1 (by decide), Option.bind_some]
        obtain ⟨J, hJe, hJx⟩ : ∃ J : Sl Nd, (if decide (x.xs[k].1 % 8 < 2) = true then some r.1 else some l) = some J ∧ J.xs = if x.xs[k].1 % 8 < 2 then r.1.xs else l.xs := by
          by_cases hw : x.xs[k].1 % 8 < 2
          · exact ⟨r.1, if_pos (decide_eq_true hw), by rw [if_pos hw]⟩
          · exact ⟨l, if_neg (by rw [decide_eq_true_eq]; exact hw), by rw [if_neg hw]⟩
        rw [← hJx] at hg
        have hjl := hg.vJ.len
        have e2 := p3_l2_eq hn (c := J.cap) hV hg.vJ n 0 (Nat.zero_le _) (by omega)
        rw [List.take_zero, List.map_nil, List.nil_append, Nat.sub_zero] at e2
        have e3 := p3_l3_eq hn (c := J.cap) hg.vJ hg.few hg.short n 0 (old l.xs) (Nat.zero_le _) (by have := hg.few; omega) hg.run
        rw [List.drop_zero] at e3
        have e5 := p3_l5_eq hn (c := J.cap) hg.vJ hg.v hg.fin n 0 (Nat.zero_le _) (by have := hg.v.len; omega)
        rw [hJe, Option.bind_some, len_def, mkI_ok (by omega) (by omega) (by omega), Option.bind_some, Int.toNat_natCast]
        rw [show p3_l2 n l J n 0 (List.replicate J.xs.length false) = _ from e2, Option.bind_some, show p3_l3 n r J n 0 (J.xs.map fun x => old l.xs (pa x)) = _ from e3, Option.bind_some, lrKl, show p3_l5 n r J (J.xs.map fun x => endF (old l.xs) r.2.1.xs (pa x)) n 0 = _ from e5, Option.bind_some, lrKl, ckS (by omega) (by omega), Option.bind_some, castS]
        exact p3_l1_eq hn hx hl m (k + 1) _ (by omega) (by omega) hg.v
      · rw [if_pos (by simpa using he), ckS (by omega) (by omega), Option.bind_some, castS]
        exact p3_l1_eq hn hx hl m (k + 1) _ (by omega) (by omega) hV
    · rw [if_neg (by rw [decide_eq_true_eq]; omega)]
theorem p3_law {x : Sl (Int × Int × Bool × Int)} (F : Fine (.sl (.st (.pair (.int .u8) (.pair (.int .u8) (.pair .bool (.int .u8)))))) x) : p3 6000 x = some true := by
  have hx : ∀ a ∈ x.xs, okA a := fun a ha => by
    obtain ⟨h1, h2, _, h4⟩ := F.2.2 a ha
    exact ⟨inR_u8.1 h1, inR_u8.1 h2, inR_u8.1 h4⟩
  unfold p3
  rw [len_def]
  by_cases hg : (x.xs.length : Int) > 60
  · rw [if_pos (decide_eq_true hg), lives3]; rfl
  rw [if_neg (by rw [decide_eq_true_eq]; exact hg), show p3_l1 6000 x 6000 0 (⟨[], some 0⟩ : Sl Nd) = _ from p3_l1_eq (n := 6000) (by decide) hx (by omega) 6000 0 ⟨[], some 0⟩ (Nat.zero_le _) (by omega) V.nil, Option.bind_some, lrKl, lives3]
  rfl
end Go.Proofs.Ytflieonbbggmhaa
