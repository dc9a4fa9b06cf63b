/- Suspends in plain words: use, and waking the host. Plain theorems, no condition. -/
import Derived.Test.YtflieonbbggmhaaSU2
set_option linter.unusedVariables false
set_option linter.unusedSimpArgs false
namespace Go.Proofs.Ytflieonbbggmhaa
open Go.RowKit

theorem V.map {l : List Nd} (h : V l) (f : Nd → Nd) (hp : ∀ x ∈ l, pa (f x) = pa x) (ho : ∀ x ∈ l, okN (f x))
    (hq : ∀ x ∈ l, ∀ y ∈ l, pa y = (pa x).dropLast → 1 < (pa x).length → (asl x = true ∨ asl y = false) → (asl (f x) = true ∨ asl (f y) = false)) : V (l.map f) := by
  refine ⟨by rw [List.length_map]; exact h.len, fun z hz => ?_, ?_, fun z hz hl => ?_⟩
  · obtain ⟨x, hx, rfl⟩ := List.mem_map.1 hz; exact ho x hx
  · rw [List.pairwise_map]
    exact h.sorted.imp_of_mem fun {x y} hx hy hlt => by rw [hp x hx, hp y hy]; exact hlt
  · obtain ⟨x, hx, rfl⟩ := List.mem_map.1 hz
    rw [hp x hx] at hl ⊢
    obtain ⟨y, hy, h1, h2⟩ := h.par x hx hl
    exact ⟨f y, List.mem_map.2 ⟨y, hy, rfl⟩, by rw [hp y hy]; exact h1, hq x hx y hy h1 hl h2⟩
theorem okN_ownN {x : Nd} (h : okN x) : okN (ownN x) := h
theorem V.own {l : List Nd} (h : V l) : V (l.map ownN) := h.map ownN (fun _ _ => rfl) (fun x hx => h.ok x hx) (fun _ _ _ _ _ _ q => q)
theorem awN_pa (p : List Int) (x : Nd) : pa (awN p x) = pa x := by unfold awN; split <;> rfl
theorem awN_busy (p : List Int) (x : Nd) : busy (awN p x) = busy x := by unfold awN; split <;> rfl
theorem awN_qt (p : List Int) (x : Nd) : qt (awN p x) = qt x := by unfold awN; split <;> rfl
theorem awN_asl (p : List Int) (x : Nd) : asl (awN p x) = (asl x && !wak p x) := by
  unfold awN
  cases hw : wak p x
  · simp
  · rw [if_pos rfl]; simp [asl]
theorem wak_asl {p : List Int} {x : Nd} (h : wak p x = true) : asl x = true := by
  unfold wak at h; exact (Bool.and_eq_true_iff.1 h).1
theorem okN_awN {p : List Int} {x : Nd} (h : okN x) : okN (awN p x) := by
  obtain ⟨h1, h2, h3, h4⟩ := h
  refine ⟨by rw [awN_pa]; exact h1, by rw [awN_qt]; exact h2, ?_, ?_⟩
  · rw [awN_busy, awN_asl]
    cases hb : busy x
    · rfl
    · rw [hb] at h3; rw [show asl x = false by simpa using h3]; rfl
  · intro hq
    rw [awN_qt] at hq
    rw [awN_busy, awN_asl, (h4 hq).1, (h4 hq).2]; exact ⟨rfl, rfl⟩
theorem thr_up {p q : List Int} (h : p = q ∨ thr q p) (hl : 1 < p.length) : thr q p.dropLast := by
  rcases h with rfl | ⟨h1, h2⟩
  · refine ⟨by rw [List.length_dropLast]; omega, ?_⟩
    rw [List.length_dropLast, ← List.dropLast_eq_take]
  · refine ⟨by rw [List.length_dropLast]; omega, ?_⟩
    rw [List.length_dropLast]
    have : q.take (p.length - 1) = (q.take p.length).take (p.length - 1) := by rw [List.take_take, Nat.min_eq_left (by omega)]
    rw [this, h2, ← List.dropLast_eq_take]
theorem awN_par {p : List Int} {x y : Nd} (hy : pa y = (pa x).dropLast) (hl : 1 < (pa x).length) (h : asl x = true ∨ asl y = false) : asl (awN p x) = true ∨ asl (awN p y) = false := by
  rw [awN_asl, awN_asl]
  cases hx : asl x
  · right
    rcases h with h | h
    · rw [hx] at h; cases h
    · rw [h]; rfl
  · cases hw : wak p x
    · exact .inl rfl
    · right
      cases hya : asl y
      · rfl
      · have : wak p y = true := by
          unfold wak at hw ⊢
          rw [hya, Bool.true_and]
          have hw2 := (Bool.and_eq_true_iff.1 hw).2
          rw [Bool.or_eq_true, decide_eq_true_eq, decide_eq_true_eq] at hw2
          have := thr_up hw2 hl
          rw [hy, decide_eq_true this, Bool.or_true]
        rw [this]; rfl
theorem V.wake {l : List Nd} (h : V l) (p : List Int) : V (l.map fun x => awN p (ownN x)) :=
  h.map _ (fun x _ => awN_pa p (ownN x)) (fun x hx => okN_awN (okN_ownN (h.ok x hx))) (fun x _ y _ h1 h2 h3 => awN_par (x := ownN x) (y := ownN y) h1 h2 h3)
/-- One element of a sorted list is turned. -/
theorem set_map {l : List Nd} (h : l.Pairwise fun x y => pa x < pa y) {j : Nat} (hj : j < l.length) {p : List Int} (hp : pa l[j] = p) (g : Nd → Nd) : l.set j (g l[j]) = l.map fun x => if pa x = p then g x else x := by
  refine List.ext_getElem (by simp) fun i h1 h2 => ?_
  have hi : i < l.length := by simpa using h2
  rw [List.getElem_set, List.getElem_map]
  by_cases e : j = i
  · subst e; rw [if_pos rfl, if_pos hp]
  · rw [if_neg e, if_neg fun q => e (sorted_eq h hj hi (by rw [hp, q]))]
/-- A node that is used, or not. -/
def useN (b : Bool) (p : List Int) (x : Nd) : Nd := if pa x = p then (⟨x.1.xs, some x.1.xs.length⟩, b, x.2.2.1, x.2.2.2.1, if b then 0 else x.2.2.2.2) else ownN x
theorem useN_pa (b : Bool) (p : List Int) (x : Nd) : pa (useN b p x) = pa x := by unfold useN; split <;> rfl
theorem useN_asl (b : Bool) (p : List Int) (x : Nd) : asl (useN b p x) = asl x := by unfold useN; split <;> rfl
theorem V.use {l : List Nd} (h : V l) (p : List Int) : V (l.map fun x => awN p (useN true p x)) := by
  refine h.map _ (fun x _ => by rw [awN_pa, useN_pa]) (fun x hx => ?_) (fun x _ y _ h1 h2 h3 => awN_par (x := useN true p x) (y := useN true p y) (by rw [useN_pa, useN_pa]; exact h1) (by rw [useN_pa]; exact h2) (by rw [useN_asl, useN_asl]; exact h3))
  obtain ⟨o1, o2, o3, o4⟩ := h.ok x hx
  by_cases e : pa x = p
  · have ha : asl (awN p (useN true p x)) = false := by
      rw [awN_asl, useN_asl]
      cases hx2 : asl x
      · rfl
      · rw [show wak p (useN true p x) = true by
          unfold wak; rw [useN_asl, hx2, useN_pa, decide_eq_true e]; rfl]; rfl
    have hq : qt (awN p (useN true p x)) = 0 := by rw [awN_qt]; unfold useN qt; rw [if_pos e]; rfl
    refine ⟨by rw [awN_pa, useN_pa]; exact o1, by rw [hq]; exact Int.le_refl _, by rw [ha, Bool.and_false], fun hh => by rw [hq] at hh; omega⟩
  · have : useN true p x = ownN x := if_neg e
    rw [this]
    exact okN_awN (okN_ownN ⟨o1, o2, o3, o4⟩)
theorem V.free {l : List Nd} (h : V l) (p : List Int) : V (l.map (useN false p)) := by
  refine h.map _ (fun x _ => useN_pa _ _ x) (fun x hx => ?_) (fun x _ y _ h1 h2 h3 => by rw [useN_asl, useN_asl]; exact h3)
  obtain ⟨o1, o2, o3, o4⟩ := h.ok x hx
  by_cases e : pa x = p
  · have hq : qt (useN false p x) = qt x := by unfold useN qt; rw [if_pos e]; rfl
    have hb : busy (useN false p x) = false := by unfold useN busy; rw [if_pos e]
    exact ⟨by rw [useN_pa]; exact o1, by rw [hq]; exact o2, by rw [hb]; rfl, fun hh => by rw [hq] at hh; rw [hb, useN_asl]; exact ⟨rfl, (o4 hh).2⟩⟩
  · have : useN false p x = ownN x := if_neg e
    rw [this]; exact ⟨o1, o2, o3, o4⟩
theorem own_lens {l : List Nd} (h : V l) (f : Nd → Nd) (hp : ∀ x, pa (f x) = pa x) : ∀ x ∈ l.map f, (pa x).length ≤ 200 := fun z hz => by
  obtain ⟨x, hx, rfl⟩ := List.mem_map.1 hz
  rw [hp]; have := h.plen x hx; omega
/-- The orders of waking are told by the nodes. -/
theorem ords_map {p : List Int} {l : List Nd} {f : Nd → Nd} (hp : ∀ x, (f x).1.xs = x.1.xs) (hw : ∀ x, asl (f x) = asl x) : ords p (l.map f) = ords p l := by
  unfold ords
  rw [List.filter_map, List.map_map]
  have e1 : (wak p ∘ f) = wak p := by
    funext x
    show wak p (f x) = wak p x
    unfold wak
    rw [hw, show pa (f x) = pa x from hp x]
  rw [e1]
  refine List.map_congr_left fun x _ => ?_
  show ((⟨(f x).1.xs, some (f x).1.xs.length⟩ : Sl Int), true) = _
  rw [hp]
theorem p17_eq {n : Nat} (hn : 300 ≤ n) {l : List Nd} {c : Option Nat} (h : V l) {p : Sl Int} (hp : p.xs.length ≤ 200) (b : Bool) :
    ((∀ x ∈ l, pa x ≠ p.xs) ∧ p17 n ⟨l, c⟩ p b = some (⟨[], some 0⟩, ⟨[], some 0⟩, 7)) ∨
    ((∃ x ∈ l, pa x = p.xs) ∧ p17 n ⟨l, c⟩ p b = some (if b then (⟨l.map fun x => awN p.xs (useN true p.xs x), some l.length⟩, ⟨ords p.xs l, some (ords p.xs l).length⟩, 0) else (⟨l.map (useN false p.xs), some l.length⟩, ⟨[], some 0⟩, 0))) := by
  have hl := h.len
  unfold p17
  rw [p19_ok hn h, Option.bind_some, if_neg (by decide)]
  rcases p30_eq hn (l := l) (c := c) (p := p) (by omega) hp with ⟨h1, h2⟩ | ⟨j, hj, h1, h2⟩
  · exact .inl ⟨h2, by rw [h1, Option.bind_some, if_pos (by decide)]⟩
  · refine .inr ⟨⟨l[j], List.getElem_mem hj, h2⟩, ?_⟩
    rw [h1, Option.bind_some, if_neg (by rw [decide_eq_true_eq]; omega), p23_eq hn (by omega) (fun x hx => by have := h.plen x hx; omega), Option.bind_some]
    dsimp only
    have hjm : j < (l.map ownN).length := by rw [List.length_map]; exact hj
    rw [idxE hjm, Option.bind_some, Int.toNat_natCast]
    have hso : (l.map ownN).Pairwise fun x y => pa x < pa y := h.own.sorted
    have hpj : pa (l.map ownN)[j] = p.xs := by rw [List.getElem_map]; exact h2
    cases b with
    | false =>
      rw [if_pos (by rfl), if_neg (by decide)]
      rw [set_map hso hjm hpj fun x => (x.1, false, x.2.2.1, x.2.2.2.1, x.2.2.2.2), List.map_map]
      rfl
    | true =>
      rw [if_neg (by decide), if_pos rfl]
      have e1 : ∀ z : Nd, idx ((l.map ownN).set j z) (j : Int) = some z := fun z => by rw [idx_nat]; simp [hj]
      rw [e1, Option.bind_some, List.set_set]
      have e2 := set_map hso hjm hpj fun x => (x.1, true, x.2.2.1, x.2.2.2.1, 0)
      rw [e2, List.map_map]
      have e3 : ((fun x => if pa x = p.xs then (x.1, true, x.2.2.1, x.2.2.2.1, (0 : Int)) else x) ∘ ownN) = useN true p.xs := by
        funext x
        show (if pa (ownN x) = p.xs then _ else ownN x) = _
        unfold useN
        rfl
      rw [e3, p31_eq hn (by rw [List.length_map]; omega) hp (own_lens h _ (useN_pa _ _)), Option.bind_some, List.map_map, ords_map (fun x => useN_pa _ _ x) (fun x => useN_asl _ _ x)]
      rfl
theorem p18_eq {n : Nat} (hn : 300 ≤ n) {l : List Nd} {c : Option Nat} (h : V l) {p : Sl Int} (hp : p.xs.length ≤ 200) :
    ((∀ x ∈ l, pa x ≠ p.xs) ∧ p18 n ⟨l, c⟩ p = some (⟨[], some 0⟩, ⟨[], some 0⟩, 7)) ∨
    (∃ x ∈ l, pa x = p.xs ∧ p18 n ⟨l, c⟩ p = some (if asl x && x.2.2.1 then (⟨l.map fun x => awN p.xs (ownN x), some l.length⟩, ⟨ords p.xs l, some (ords p.xs l).length⟩, 0) else (⟨[], some 0⟩, ⟨[], some 0⟩, 6))) := by
  have hl := h.len
  unfold p18
  rw [p19_ok hn h, Option.bind_some, if_neg (by decide)]
  rcases p30_eq hn (l := l) (c := c) (p := p) (by omega) hp with ⟨h1, h2⟩ | ⟨j, hj, h1, h2⟩
  · exact .inl ⟨h2, by rw [h1, Option.bind_some, if_pos (by decide)]⟩
  · refine .inr ⟨l[j], List.getElem_mem hj, h2, ?_⟩
    rw [h1, Option.bind_some, if_neg (by rw [decide_eq_true_eq]; omega), show idx (⟨l, c⟩ : Sl Nd).xs (j : Int) = some l[j] from idxE hj, Option.bind_some, Option.bind_some, orS, Option.bind_some, show l[j].2.2.2.1 = asl l[j] from rfl]
    rw [show (!asl l[j] || !l[j].2.2.1) = !(asl l[j] && l[j].2.2.1) by rw [Bool.not_and]]
    cases hc : (asl l[j] && l[j].2.2.1) with
    | false => rw [if_pos (by rfl), if_neg (by decide)]
    | true =>
      rw [if_neg (by decide), if_pos rfl, p23_eq hn (by omega) (fun x hx => by have := h.plen x hx; omega), Option.bind_some]
      dsimp only
      rw [p31_eq hn (by rw [List.length_map]; omega) hp (own_lens h ownN (fun _ => rfl)), Option.bind_some, List.map_map, ords_map (f := ownN) (fun x => rfl) (fun x => rfl)]
      rfl
end Go.Proofs.Ytflieonbbggmhaa
