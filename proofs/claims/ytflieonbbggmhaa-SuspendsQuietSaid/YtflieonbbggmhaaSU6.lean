/- Suspends in plain words: paths of three at most, many frames. Plain theorems, no condition. -/
import Derived.Test.YtflieonbbggmhaaSU5
set_option linter.unusedVariables false
set_option linter.unusedSimpArgs false
namespace Go.Proofs.Ytflieonbbggmhaa
open Go.RowKit

theorem p20_three {n : Nat} {q : Int} (hq : 0 ≤ q ∧ q ≤ 255) {p : Sl Int} (h : p20 n q = some p) : p.xs.length ≤ 3 := by
  have d3 : 0 ≤ q / 3 ∧ q / 3 ≤ 255 := ⟨by omega, by omega⟩
  have d9 : 0 ≤ q / 9 ∧ q / 9 ≤ 255 := ⟨by omega, by omega⟩
  have d27 : 0 ≤ q / 27 ∧ q / 27 ≤ 255 := ⟨by omega, by omega⟩
  unfold p20 at h
  rw [quo8 hq (by decide), Option.bind_some, rem8 d3 (by decide), Option.bind_some, quo8 hq (by decide), Option.bind_some, rem8 d9 (by decide), Option.bind_some, quo8 hq (by decide), Option.bind_some, rem8 d27 (by decide), Option.bind_some, rem8 hq (by decide), Option.bind_some] at h
  have w : ∀ z : Int, IntKind.wrap .u8 (1 + z % 3) = 1 + z % 3 := fun z => by rw [wrap_u8]; omega
  rw [w, w, w, w] at h
  obtain ⟨k, hk, hk3⟩ : ∃ k : Nat, 1 + q % 3 = k ∧ 1 ≤ k ∧ k ≤ 3 := ⟨(1 + q % 3).toNat, by omega, by omega, by omega⟩
  rw [hk, slI_cut (by simp; omega), Option.bind_some] at h
  obtain rfl := Option.some.inj h
  show (List.take k _).length ≤ 3
  simp; omega
def B3 (l : List Nd) : Prop := ∀ x ∈ l, (pa x).length ≤ 3
theorem B3.map {l : List Nd} (h : B3 l) (f : Nd → Nd) (hf : ∀ x, pa (f x) = pa x) : B3 (l.map f) := fun x hx => by
  obtain ⟨y, hy, rfl⟩ := List.mem_map.1 hx
  rw [hf]; exact h y hy
theorem B3.put {l : List Nd} (h : B3 l) {p : List Int} (hp : p.length ≤ 3) (wk : Bool) : B3 (putL l p wk) := by
  unfold putL
  refine B3.map (fun x hx => ?_) ownN (fun _ => rfl)
  have hm : B3 (l.map fun x => awN p (ownN x)) := h.map _ (fun x => awN_pa p _)
  rcases List.mem_append.1 hx with hx | hx
  · exact hm x (List.mem_of_mem_take hx)
  · rcases List.mem_cons.1 hx with rfl | hx
    · exact hp
    · exact hm x (List.mem_of_mem_drop hx)
theorem B3.take {l : List Nd} (h : B3 l) (p : List Int) : B3 (takeL l p) :=
  B3.map (fun x hx => h x (List.mem_filter.1 hx).1) ownN (fun _ => rfl)
theorem p9_three {n : Nat} (hn : 300 ≤ n) {l : List Nd} {c : Option Nat} (h : V l) (hb : B3 l) {a : Int × Int × Bool × Int} (ha : okA a) : ∃ r, p9 n ⟨l, c⟩ a = some r ∧ (r.2.2 = 0 → V r.1.xs ∧ B3 r.1.xs) := by
  obtain ⟨a1, a2, a3⟩ := ha
  obtain ⟨p, hp, hok⟩ := p20_eq (n := n) a2
  have hp3 := p20_three a2 hp
  have hpl : p.xs.length ≤ 200 := by have := hok.1.2; omega
  unfold p9
  rw [hp, Option.bind_some, rem8 a1 (by decide), Option.bind_some]
  generalize a.1 % 8 = w
  by_cases h0 : w = 0
  · rw [if_pos (by rw [h0]; rfl)]
    by_cases hf : Fits l p.xs
    · rw [p15_ok hn h hf]; exact ⟨_, rfl, fun _ => ⟨h.put hf _, hb.put hp3 _⟩⟩
    · obtain ⟨e, he, h1, _⟩ := p15_bad hn (c := c) h hpl hf a.2.2.1
      rw [h1]; exact ⟨_, rfl, fun q => absurd q he⟩
  · rw [if_neg (by simpa using h0)]
    by_cases h1 : w = 1
    · rw [if_pos (by rw [h1]; rfl)]
      rcases p16_eq hn (c := c) h hpl with ⟨_, e⟩ | ⟨_, e⟩
      · rw [e]; exact ⟨_, rfl, fun q => absurd q (by decide)⟩
      · rw [e]; exact ⟨_, rfl, fun _ => ⟨h.take _, hb.take _⟩⟩
    · rw [if_neg (by simpa using h1)]
      have ej : (if (w == 2) = true then some (w == 2) else some (w == 3)) = some (w == 2 || w == 3) := by cases (w == 2) <;> rfl
      rw [ej, Option.bind_some]
      cases hj : (w == 2 || w == 3) with
      | true =>
        rw [if_pos rfl]
        rcases p17_eq hn (c := c) h hpl a.2.2.1 with ⟨_, e⟩ | ⟨_, e⟩
        · rw [e]; exact ⟨_, rfl, fun q => absurd q (by decide)⟩
        · rw [e]
          cases a.2.2.1
          · exact ⟨_, rfl, fun _ => ⟨h.free _, hb.map _ (useN_pa _ _)⟩⟩
          · exact ⟨_, rfl, fun _ => ⟨h.use _, hb.map _ (fun x => by rw [awN_pa, useN_pa])⟩⟩
      | false =>
        rw [if_neg (by decide)]
        by_cases h4 : w = 4
        · rw [if_pos (by rw [h4]; rfl)]
          rcases p18_eq hn (c := c) h hpl with ⟨_, e⟩ | ⟨x, _, _, e⟩
          · rw [e]; exact ⟨_, rfl, fun q => absurd q (by decide)⟩
          · rw [e]
            cases (asl x && x.2.2.1)
            · exact ⟨_, rfl, fun q => absurd (show (6 : Int) = 0 from q) (by decide)⟩
            · exact ⟨_, rfl, fun _ => ⟨h.wake _, hb.map _ (fun x => by rw [awN_pa]; rfl)⟩⟩
        · rw [if_neg (by simpa using h4), rem8 a3 (by decide), Option.bind_some, p12_eq hn h (by omega)]
          by_cases h5 : a.2.2.2 % 5 < 1
          · rw [if_pos h5]; exact ⟨_, rfl, fun q => absurd q (by decide)⟩
          · rw [if_neg h5]; exact ⟨_, rfl, fun _ => ⟨h.tick _, hb.map _ (tickN_pa _ _)⟩⟩
/-! ### Many frames -/
theorem tickN_busy (l : List Nd) (a : Int) (x : Nd) : busy (tickN l a x) = busy x := by unfold tickN; split <;> (try split) <;> (try split) <;> rfl
theorem tickN_asl (l : List Nd) (a : Int) (x : Nd) : asl (tickN l a x) = (asl x || (!needB l x && decide (qt x ≥ a - 1))) := by
  unfold tickN
  cases h : asl x with
  | true => rw [if_pos rfl, Bool.true_or]; exact h
  | false =>
    rw [if_neg (by decide), Bool.false_or]
    cases hn : needB l x with
    | true => rw [if_pos rfl, Bool.not_true, Bool.false_and]; exact h
    | false =>
      rw [if_neg (by decide), Bool.not_false, Bool.true_and]
      by_cases hq : qt x ≥ a - 1
      · rw [if_pos hq, decide_eq_true hq]; rfl
      · rw [if_neg hq, decide_eq_false hq]; exact h
theorem tickN_qt {l : List Nd} {a : Int} {x : Nd} (h : asl x = false) (hn : needB l x = false) (hq : ¬ qt x ≥ a - 1) : qt (tickN l a x) = qt x + 1 := by
  unfold tickN
  rw [h, if_neg (by decide), hn, if_neg (by decide), if_neg hq]; rfl
/-- A node behind some frames. -/
def tf (l : List Nd) (k : Int) : Nat → Nd → Nd
  | 0 => id
  | t + 1 => fun x => tickN (l.map (tf l k t)) k (tf l k t x)
theorem tf_step (l : List Nd) (k : Int) (t : Nat) (x : Nd) : tf l k (t + 1) x = tickN (l.map (tf l k t)) k (tf l k t x) := rfl
theorem tf_pa (l : List Nd) (k : Int) : ∀ (t : Nat) (x : Nd), pa (tf l k t x) = pa x
  | 0, _ => rfl
  | t + 1, x => by show pa (tickN _ _ _) = _; rw [tickN_pa, tf_pa l k t]
theorem tf_busy (l : List Nd) (k : Int) : ∀ (t : Nat) (x : Nd), busy (tf l k t x) = busy x
  | 0, _ => rfl
  | t + 1, x => by show busy (tickN _ _ _) = _; rw [tickN_busy, tf_busy l k t]
theorem tf_succ (l : List Nd) (k : Int) (t : Nat) : l.map (tf l k (t + 1)) = (l.map (tf l k t)).map (tickN (l.map (tf l k t)) k) := by rw [List.map_map]; rfl
theorem V.tf {l : List Nd} (h : V l) (k : Int) : ∀ t, V (l.map (tf l k t))
  | 0 => by show V (l.map id); rw [List.map_id]; exact h
  | t + 1 => by rw [tf_succ]; exact (V.tf h k t).tick k
theorem tf_stay {l : List Nd} {k : Int} {x : Nd} {t : Nat} (h : asl (tf l k t x) = true) : ∀ d, asl (tf l k (t + d) x) = true
  | 0 => h
  | d + 1 => by
    rw [← Nat.add_assoc, tf_step, tickN_asl, tf_stay h d]; rfl
theorem need_map (l : List Nd) (f : Nd → Nd) (hf : ∀ x, pa (f x) = pa x) (y : Nd) : needB (l.map f) y = (busy y || l.any fun m => !asl (f m) && decide (thr (pa m) (pa y))) := by
  unfold needB
  rw [List.any_map]
  congr 2
  funext m
  show (!asl (f m) && decide (thr (pa (f m)) (pa y))) = _
  rw [hf]
theorem tf_sleep {l : List Nd} (hV : V l) {k : Nat} (hk : 1 ≤ k) {x : Nd} (hx : x ∈ l) {t0 : Nat} (h : ∀ s, t0 ≤ s → needB (l.map (tf l k s)) (tf l k s x) = false) : asl (tf l k (t0 + k) x) = true := by
  have key : ∀ s, asl (tf l k (t0 + s) x) = true ∨ qt (tf l k (t0 + s) x) ≥ s := by
    intro s
    induction s with
    | zero => exact .inr ((hV.tf k t0).ok _ (List.mem_map_of_mem hx)).2.1
    | succ s ih =>
      have hn := h (t0 + s) (by omega)
      by_cases ha : asl (tf l k (t0 + s) x) = true
      · exact .inl (tf_stay ha 1)
      · have ha' : asl (tf l k (t0 + s) x) = false := by simpa using ha
        have hq : qt (tf l k (t0 + s) x) ≥ s := ih.resolve_left ha
        by_cases hq2 : qt (tf l k (t0 + s) x) ≥ (k : Int) - 1
        · left
          rw [← Nat.add_assoc, tf_step, tickN_asl, ha', hn, decide_eq_true hq2]; rfl
        · right
          rw [← Nat.add_assoc, tf_step, tickN_qt ha' hn hq2]; omega
  obtain ⟨q, rfl⟩ : ∃ q, k = q + 1 := ⟨k - 1, by omega⟩
  have hn := h (t0 + q) (by omega)
  rw [← Nat.add_assoc, tf_step, tickN_asl, hn]
  rcases key q with ha | hq
  · rw [ha]; rfl
  · rw [decide_eq_true (show qt (tf l ((q + 1 : Nat) : Int) (t0 + q) x) ≥ ((q + 1 : Nat) : Int) - 1 by omega)]
    simp
theorem thr_trans {a b c : List Int} (h1 : thr a b) (h2 : thr b c) : thr a c := by
  refine ⟨Nat.lt_trans h2.1 h1.1, ?_⟩
  have := h2.2
  rw [← h1.2, List.take_take, Nat.min_eq_left (by have := h2.1; omega)] at this
  exact this
theorem thr_last {p q : List Int} (h : thr p q) : q = p.dropLast ∨ thr p.dropLast q := by
  have hd : p.dropLast = p.take (p.length - 1) := List.dropLast_eq_take ..
  have h1 := h.1
  by_cases e : q.length = p.length - 1
  · left; rw [hd, ← e, h.2]
  · right
    refine ⟨by rw [List.length_dropLast]; omega, ?_⟩
    rw [hd, List.take_take, Nat.min_eq_left (by omega), h.2]
theorem V.awake {l : List Nd} (h : V l) {x : Nd} (hx : x ∈ l) : ∀ (n : Nat) (m : Nd), (pa m).length ≤ n → m ∈ l → thr (pa m) (pa x) → asl m = false → asl x = false
  | 0, m, hl, _, ht, _ => absurd ht.1 (by omega)
  | n + 1, m, hl, hm, ht, ha => by
    have h1 := (h.ok x hx).1.1.1
    have ht1 := ht.1
    obtain ⟨y, hy, hyp, hya⟩ := h.par m hm (by omega)
    have hya : asl y = false := hya.resolve_left (by rw [ha]; decide)
    rcases thr_last ht with e | e
    · have : y = x := sorted_uniq h.sorted y hy x hx (by rw [hyp, e])
      rw [← this]; exact hya
    · rw [← hyp] at e
      exact V.awake h hx n y (by rw [hyp, List.length_dropLast]; omega) hy e hya
def nb (l : List Nd) (x : Nd) : Prop := busy x = false ∧ ∀ m ∈ l, thr (pa m) (pa x) → busy m = false
theorem tf_height {l : List Nd} (hV : V l) (h3 : B3 l) {k : Nat} (hk : 1 ≤ k) : ∀ (h : Nat) (x : Nd), x ∈ l → nb l x → 4 ≤ (pa x).length + h → asl (tf l k (h * k) x) = true
  | 0, x, hx, _, hl => absurd (h3 x hx) (by omega)
  | h + 1, x, hx, hn, hl => by
    rw [Nat.succ_mul]
    refine tf_sleep hV hk hx fun s hs => ?_
    rw [need_map _ _ (tf_pa l k s), tf_busy, hn.1, Bool.false_or, tf_pa, List.any_eq_false]
    intro m hm
    cases ht : decide (thr (pa m) (pa x)) with
    | false => rw [Bool.and_false]; decide
    | true =>
      have ht := of_decide_eq_true ht
      have hnm : nb l m := ⟨hn.2 m hm ht, fun z hz hzt => hn.2 z hz (thr_trans hzt ht)⟩
      have := tf_height hV h3 hk h m hm hnm (by have := ht.1; omega)
      have := tf_stay this (s - h * k)
      rw [show h * k + (s - h * k) = s by omega] at this
      rw [this]; decide
def wants (l : List Nd) (x : Nd) : Bool := busy x || l.any fun m => busy m && decide (thr (pa m) (pa x))
theorem tf_end {l : List Nd} (hV : V l) (h3 : B3 l) {k : Nat} (hk : 1 ≤ k) {x : Nd} (hx : x ∈ l) : asl (tf l k (3 * k) x) = !wants l x := by
  have hV' := hV.tf k (3 * k)
  have hb : ∀ m ∈ l, busy m = true → asl (tf l k (3 * k) m) = false := fun m hm hmb => by
    have := (hV'.ok _ (List.mem_map_of_mem hm)).2.2.1
    rw [tf_busy, hmb, Bool.true_and] at this
    exact this
  cases hw : wants l x with
  | true =>
    unfold wants at hw
    rcases Bool.or_eq_true_iff.1 hw with h | h
    · rw [hb x hx h]; rfl
    · obtain ⟨m, hm, h⟩ := List.any_eq_true.1 h
      obtain ⟨h1, h2⟩ := Bool.and_eq_true_iff.1 h
      exact hV'.awake (List.mem_map_of_mem hx) _ _ (Nat.le_refl _) (List.mem_map_of_mem hm) (by rw [tf_pa, tf_pa]; exact of_decide_eq_true h2) (hb m hm h1)
  | false =>
    unfold wants at hw
    obtain ⟨h1, h2⟩ := Bool.or_eq_false_iff.1 hw
    rw [List.any_eq_false] at h2
    exact tf_height hV h3 hk 3 x hx ⟨h1, fun m hm ht => by
      have := h2 m hm
      rw [decide_eq_true ht, Bool.and_true] at this
      simpa using this⟩ (by have := (hV.ok x hx).1.1.1; omega)
end Go.Proofs.Ytflieonbbggmhaa
