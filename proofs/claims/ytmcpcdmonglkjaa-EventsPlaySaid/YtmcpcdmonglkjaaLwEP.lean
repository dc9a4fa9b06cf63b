/- Events: the law of a log played. Plain theorems, no condition. -/
import Derived.Test.YtmcpcdmonglkjaaEV6
import Derived.Test.YtmcpcdmonglkjaaPp1
import Derived.Test.YtmcpcdmonglkjaaXE16
set_option linter.unusedVariables false
set_option linter.unusedSimpArgs false
namespace Go.Proofs.Ytmcpcdmonglkjaa
open Go.RowKit

theorem p5_l1_ok {n : Nat} (x0 : Sl Ac) (x1 : Bool) (hx : ∀ x ∈ x0.xs, AcOk x) (hl : x0.xs.length ≤ 40) : ∀ (m k : Nat) (c : Int) (acc : List Ev), x0.xs.length < k + m → k ≤ x0.xs.length → acc.length = k → (∀ e ∈ acc, EvOk e) → (-1000 + 20 * (40 - k : Int) ≤ c + 100 * 8 ∧ c ≤ 100 + 3 * k) →
    ∃ ys, p5_l1 n x0 x1 m k c acc = some ys ∧ ys.length = x0.xs.length ∧ ∀ e ∈ ys, EvOk e := by
  intro m
  induction m with
  | zero => intro k c acc h hk; omega
  | succ m IH =>
    intro k c acc hkm hk ha hok hc
    rw [p5_l1]
    by_cases hlt : k < x0.xs.length
    · obtain ⟨a1, a2, a3, a4⟩ := hx _ (List.getElem_mem hlt)
      have r4 : remI .u8 x0.xs[k].2.2.2 4 = some (x0.xs[k].2.2.2 % 4) := remI_ok a4.1 (by decide) (inR_u8.2 (by omega))
      have r16 : remI .u8 x0.xs[k].2.2.2 16 = some (x0.xs[k].2.2.2 % 16) := remI_ok a4.1 (by decide) (inR_u8.2 (by omega))
      rw [if_pos (decide_eq_true (show (k : Int) < lenI x0 by unfold lenI; omega)), ixN hlt, Option.bind_some, r4, Option.bind_some, ckS (by omega) (by omega), Option.bind_some]
      obtain ⟨q, hq⟩ : ∃ q : Bool, (if x1 = true then ((some x0.xs[k]).bind fun y_38 => (remI .u8 y_38.2.2.2 16).bind fun x_44 => some (x_44 == 15)) else some false) = some q := by
        cases x1 with
        | true => exact ⟨_, by rw [if_pos rfl, Option.bind_some, r16, Option.bind_some]⟩
        | false => exact ⟨_, by rw [if_neg Bool.false_ne_true]⟩
      rw [hq, Option.bind_some]
      obtain ⟨c2, hc2, hr⟩ : ∃ c2, (if q = true then ((ckI .i64 (c + x0.xs[k].2.2.2 % 4 - 5)).bind fun x_48 => some x_48) else some (c + x0.xs[k].2.2.2 % 4)) = some c2 ∧ c - 5 ≤ c2 ∧ c2 ≤ c + 3 := by
        cases q with
        | true => exact ⟨_, by rw [if_pos rfl, ckS (by omega) (by omega), Option.bind_some], by omega, by omega⟩
        | false => exact ⟨_, by rw [if_neg Bool.false_ne_true], by omega, by omega⟩
      obtain ⟨e, he, _, hok2, _⟩ := p13_ok n _ (hx _ (List.getElem_mem hlt)) c2
      rw [hc2, Option.bind_some, Option.bind_some, he, Option.bind_some, appN (by simp; omega), Option.bind_some, ckS (by omega) (by omega), Option.bind_some, succI]
      refine IH (k + 1) c2 _ (by omega) (by omega) (by simp; omega) (fun z hz => ?_) (by omega)
      rcases List.mem_append.1 hz with hz | hz
      · exact hok z hz
      · rw [List.mem_singleton.1 hz]; exact hok2
    · rw [if_neg (by rw [decide_eq_true_eq]; unfold lenI; omega)]
      exact ⟨acc, rfl, by omega, hok⟩
/-- The two plays side by side. -/
theorem plays {n : Nat} (hn : 1000 < n) (ys : List Ev) (hl : ys.length ≤ 40) (hok : ∀ e ∈ ys, EvOk e) (c : Option Nat) : ∀ (m m' k : Nat) (T1 T2 : Sl Nd), ys.length < k + m → ys.length + 1 < k + m' → k ≤ ys.length →
    Own T1 → T1.xs.map nd = T2.xs.map nd → V (T1.xs.map nd) →
    (∃ S1 S2 : Sl Nd, p19_l1 n ⟨ys, c⟩ m k T1 = some (.inl S1) ∧ p5_l2 n ys m' 0 k T2 = some (S2, (ys.length : Int), 0) ∧ Own S1 ∧ S1.xs.map nd = S2.xs.map nd ∧ V (S1.xs.map nd)) ∨
    (∃ (S2 : Sl Nd) (j e : Int), p19_l1 n ⟨ys, c⟩ m k T1 = some (.inr (⟨[], some 0⟩, j, e)) ∧ p5_l2 n ys m' 0 k T2 = some (S2, j, e) ∧ e ≠ 0) := by
  intro m
  induction m with
  | zero => intro m' k T1 T2 h; omega
  | succ m IH =>
    intro m' k T1 T2 hkm hkm' hk ho hs hV
    obtain ⟨m', rfl⟩ : ∃ q, m' = q + 1 := ⟨m' - 1, by omega⟩
    rw [p19_l1, p5_l2]
    by_cases hlt : k < ys.length
    · have hV2 : V (T2.xs.map nd) := hs ▸ hV
      have he := hok _ (List.getElem_mem hlt)
      obtain ⟨W, hW, hWo, hWn⟩ := p30_eq (hV.bd hn) ys[k] he.1 he.2.1 he.2.2
      obtain ⟨B, hB, hBo⟩ := p14_eq (hV2.bd hn) ys[k] he.short.1 he.short.2
      rw [← hs] at hB hBo
      have hl0 : (lenI (⟨ys, c⟩ : Sl Ev)) = (ys.length : Int) := rfl
      have hl1 : (lenI (⟨ys, .none⟩ : Sl Ev)) = (ys.length : Int) := rfl
      rw [if_pos (decide_eq_true (show (k : Int) < lenI (⟨ys, c⟩ : Sl Ev) by rw [hl0]; omega)), if_pos (decide_eq_true (show (k : Int) < lenI (⟨ys, .none⟩ : Sl Ev) by rw [hl1]; omega))]
      have stop : ∀ (z : Int) (S : Sl Nd), z ≠ 0 → p5_l2 n ys m' z k S = some (S, (k : Int), z) := fun z S hz => by
        obtain ⟨q, rfl⟩ : ∃ q, m' = q + 1 := ⟨m' - 1, by omega⟩
        rw [p5_l2, if_pos (decide_eq_true (show (k : Int) < lenI (⟨ys, .none⟩ : Sl Ev) by rw [hl1]; omega)), Option.bind_some, if_neg (by simpa using hz)]
      obtain ⟨q, hq1, hq2⟩ : ∃ q : Bool, (if (decide ((k : Int) > 0)) = true then (ckI .i64 ((k : Int) - 1)).bind fun x_35 => (idx (⟨ys, c⟩ : Sl Ev).xs x_35).bind fun y_36 => some (decide (ys[k].1 < y_36.1)) else some false) = some q ∧
          (if (decide ((k : Int) > 0)) = true then (idx ys (k : Int)).bind fun y_125 => (ckI .i64 ((k : Int) - 1)).bind fun x_131 => (idx ys x_131).bind fun y_132 => some (decide (y_125.1 < y_132.1)) else some false) = some q := by
        by_cases h0 : k = 0
        · exact ⟨false, if_neg (by rw [decide_eq_true_eq]; omega), if_neg (by rw [decide_eq_true_eq]; omega)⟩
        · have e1 : ckI .i64 ((k : Int) - 1) = some ((k - 1 : Nat) : Int) := (ckS (by omega) (by omega)).trans (by congr 1; omega)
          refine ⟨decide (ys[k].1 < (ys[k - 1]'(by omega)).1), ?_, ?_⟩
          · rw [if_pos (decide_eq_true (by omega)), e1, Option.bind_some, ixN (show k - 1 < ys.length by omega), Option.bind_some]
          · rw [if_pos (decide_eq_true (by omega)), ixN hlt, Option.bind_some, e1, Option.bind_some, ixN (show k - 1 < ys.length by omega), Option.bind_some]
      rw [Option.bind_some, if_pos (by rfl)]
      rw [show idx (⟨ys, c⟩ : Sl Ev).xs (k : Int) = some ys[k] from ixN hlt]
      rw [ixN hlt] at hq2
      rw [Option.bind_some, hq1, Option.bind_some, Option.bind_some, hB, Option.bind_some, hq2, Option.bind_some]
      cases q with
      | true =>
        rw [if_pos rfl, if_pos rfl, Option.bind_some, if_neg (by decide), Option.bind_some, stop 1 T2 (by decide)]
        exact .inr ⟨T2, k, 1, rfl, rfl, by decide⟩
      | false =>
        rw [if_neg Bool.false_ne_true, if_neg Bool.false_ne_true, hW, Option.bind_some, Option.bind_some]
        by_cases h0 : (stepN (T1.xs.map nd) ys[k].2.1 ys[k].2.2.1.xs ys[k].2.2.2).2 = 0
        · rw [if_neg (by simp [h0]), if_pos (by simp [h0]), ckS (by omega) (by omega), Option.bind_some, Option.bind_some, Option.bind_some, h0, succI]
          have hVs := V.step hV (w := ys[k].2.1) (p := ys[k].2.2.1.xs) (ad := ys[k].2.2.2) he.1 he.2.1 he.2.2
          exact IH m' (k + 1) W ⟨B.xs, B.cap⟩ (by omega) (by omega) (by omega) hWn (hWo.1.trans hBo.1.symm) (by rw [hWo.1]; exact hVs)
        · rw [if_pos (by simpa using h0), if_neg (by simpa using h0), Option.bind_some, stop _ T2 h0]
          exact .inr ⟨T2, k, _, rfl, rfl, h0⟩
    · have hl0 : (lenI (⟨ys, c⟩ : Sl Ev)) = (ys.length : Int) := rfl
      have hl1 : (lenI (⟨ys, .none⟩ : Sl Ev)) = (ys.length : Int) := rfl
      rw [if_neg (by rw [decide_eq_true_eq, hl0]; omega), if_neg (by rw [decide_eq_true_eq, hl1]; omega), Option.bind_some, if_neg Bool.false_ne_true]
      have hkk : k = ys.length := by omega
      subst hkk
      exact .inl ⟨T1, T2, rfl, rfl, ho, hs, hV⟩
theorem p5_law {x0 : Sl Ac} {x1 : Bool} (F0 : Fine (.sl gt1) x0) : p5 6000 x0 x1 = some true := by
  have hn : 1000 < 6000 := by omega
  have ok : ∀ x : Ac, Fine gt1 x → AcOk x := fun x h => ⟨inR_u8.1 h.1, inR_u8.1 h.2.1, inR_u8.1 h.2.2.1, inR_u8.1 h.2.2.2⟩
  unfold p5
  by_cases h40 : x0.xs.length ≤ 40
  · obtain ⟨ys, hys, hyl, hyo⟩ := p5_l1_ok (n := 6000) x0 x1 (fun x hx => ok x (F0.2.2 x hx)) h40 6000 0 100 [] (by omega) (by omega) rfl (fun e he => by cases he) (by omega)
    have hys' : p5_l1 6000 x0 x1 6000 0 100 [] = some ys := hys
    rw [if_neg (by rw [decide_eq_true_eq]; unfold lenI; omega), hys', Option.bind_some]
    unfold p19
    rcases plays hn ys (by omega) hyo .none 6000 6000 0 ⟨[], some 0⟩ ⟨[], some 0⟩ (by omega) (by omega) (by omega) ⟨rfl, fun y hy => by cases hy⟩ rfl V.nil with ⟨S1, S2, h1, h2, h3, h4, h5⟩ | ⟨S2, j, e, h1, h2, h3⟩
    · have h1' : p19_l1 6000 ⟨ys, .none⟩ 6000 0 ⟨[], some 0⟩ = some (.inl S1) := h1
      have h2' : p5_l2 6000 ys 6000 0 0 ⟨[], some 0⟩ = some (S2, (ys.length : Int), 0) := h2
      rw [h2', Option.bind_some, h1', Option.bind_some, lrl, if_neg (show ¬ (((0 : Int) != 0) = true) by decide), Option.bind_some, Option.bind_some, if_pos (by rfl), Option.bind_some]
      have hb : (lenI (⟨ys, .none⟩ : Sl Ev) == ((S2, (ys.length : Int), (0 : Int)) : Sl Nd × Int × Int).2.1) = true := by simp [lenI]
      rw [if_pos hb, p15_eq h4 (h5.bd hn) h3, Option.bind_some, Option.bind_some, if_pos rfl, livesE]
      rfl
    · have h1' : p19_l1 6000 ⟨ys, .none⟩ 6000 0 ⟨[], some 0⟩ = some (.inr (⟨[], some 0⟩, j, e)) := h1
      have h2' : p5_l2 6000 ys 6000 0 0 ⟨[], some 0⟩ = some (S2, j, e) := h2
      have e15 : p15 6000 (⟨[], some 0⟩ : Sl Nd) ⟨[], some 0⟩ = some true := p15_eq rfl (V.bd hn V.nil) ⟨rfl, fun y hy => by cases hy⟩
      rw [h2', Option.bind_some, h1', Option.bind_some, lrr, if_pos (by simpa using h3), Option.bind_some, Option.bind_some, if_pos (by simp), Option.bind_some, if_pos (by simp), e15, Option.bind_some, Option.bind_some, if_pos rfl, livesE]
      rfl
  · rw [if_pos (decide_eq_true (by unfold lenI; omega)), livesE, Option.bind_some]
end Go.Proofs.Ytmcpcdmonglkjaa
