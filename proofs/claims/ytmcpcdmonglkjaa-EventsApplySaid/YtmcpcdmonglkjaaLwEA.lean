/- Events: the law of one event at a log. Plain theorems, no condition. -/
import Derived.Test.YtmcpcdmonglkjaaEV6
import Derived.Test.YtmcpcdmonglkjaaPa1
import Derived.Test.YtmcpcdmonglkjaaXE16
set_option linter.unusedVariables false
set_option linter.unusedSimpArgs false
namespace Go.Proofs.Ytmcpcdmonglkjaa
open Go.RowKit

theorem p16_at {n : Nat} (hn : 1000 < n) {t : Sl Nd} (h : V (t.xs.map nd)) {k : Nat} (hk : k < t.xs.length) : p16 n t t.xs[k].1 = some (ownN t.xs[k], true) := by
  have hf : fnd (t.xs.map nd) t.xs[k].1.xs = some k := by
    have := fnd_at h.ord (j := k) (by simpa using hk)
    rw [List.getElem_map] at this
    exact this
  have hs := (h.bd hn).short _ (List.getElem_mem hk)
  unfold p16
  rw [p38_fnd (h.bd hn), Option.bind_some, hf, if_neg (by rw [decide_eq_true_eq]; simp only [ixO]; omega), show ixO (some k) = (k : Int) from rfl, ixN hk, Option.bind_some, p39_eq n _ (by omega), Option.bind_some]
theorem p16_no {n : Nat} (hn : 1000 < n) {t : Sl Nd} (h : V (t.xs.map nd)) {p : Sl Int} (hp : ∀ y ∈ t.xs.map nd, y.1 ≠ p.xs) : ∃ z, p16 n t p = some (z, false) := by
  have hf : fnd (t.xs.map nd) p.xs = none := by
    unfold fnd
    rw [List.findIdx?_eq_none_iff]
    intro y hy
    exact decide_eq_false (hp y hy)
  unfold p16
  rw [p38_fnd (h.bd hn), Option.bind_some, hf, if_pos (decide_eq_true (by simp [ixO]))]
  exact ⟨_, rfl⟩
theorem p4_l1_eq {n : Nat} (hn : 1000 < n) {t : Sl Nd} (h : V (t.xs.map nd)) : ∀ (m k : Nat), t.xs.length < k + m → k ≤ t.xs.length → p4_l1 n t m k = some (.inl ()) := by
  have hf := (h.bd hn).few
  intro m
  induction m with
  | zero => intro k h hk; omega
  | succ m IH =>
    intro k hkm hk
    rw [p4_l1]
    by_cases hlt : k < t.xs.length
    · have hs := (h.bd hn).short _ (List.getElem_mem hlt)
      have e17 : p17 n (ownN t.xs[k]).1 t.xs[k].1 = some true := by
        rw [p17_eq n _ _ (by show t.xs[k].1.xs.length < n; omega) (by omega) (by show t.xs[k].1.xs.length ≤ 1000000; omega) (by omega)]
        exact congrArg some (decide_eq_true rfl)
      rw [if_pos (decide_eq_true (show (k : Int) < lenI t by unfold lenI; omega)), ixN hlt, Option.bind_some, p16_at hn h hlt, Option.bind_some]
      have b2 : ((ownN t.xs[k]).2.1 != t.xs[k].2.1) = false := bne_self_eq_false _
      have b3 : ((ownN t.xs[k]).2.2 != t.xs[k].2.2) = false := bne_self_eq_false _
      rw [if_pos (show (!true) = false from rfl), Option.bind_some, e17, Option.bind_some, Option.bind_some, if_pos (show (!true) = false from rfl), Option.bind_some, Option.bind_some, b2, if_pos rfl, Option.bind_some, Option.bind_some, b3, if_neg Bool.false_ne_true]
      rw [ckS (by omega) (by omega), Option.bind_some, succI]
      exact IH (k + 1) (by omega) (by omega)
    · rw [if_neg (by rw [decide_eq_true_eq]; unfold lenI; omega)]
theorem p4_law {x0 : Sl Ac} {x1 : Ac} (F0 : Fine (.sl gt1) x0) (F1 : Fine gt1 x1) : p4 6000 x0 x1 = some true := by
  have hn : 1000 < 6000 := by omega
  have ok : ∀ x : Ac, Fine gt1 x → AcOk x := fun x h => ⟨inR_u8.1 h.1, inR_u8.1 h.2.1, inR_u8.1 h.2.2.1, inR_u8.1 h.2.2.2⟩
  obtain ⟨t, ht, hV, hL⟩ := p12_ok hn (fun x hx => ok x (F0.2.2 x hx))
  obtain ⟨e, he, _, hok, hlo⟩ := p13_ok 6000 x1 (ok x1 F1) 0
  obtain ⟨T, hT, hO⟩ := p14_eq (hV.bd hn) e hok.short.1 hok.short.2
  obtain ⟨W, hW, hOW, hOwn⟩ := p9_eq hn hV hok
  have hVs := V.step hV (w := e.2.1) (p := e.2.2.1.xs) (ad := e.2.2.2) hok.1 hok.2.1 hok.2.2
  have hVW : V (W.xs.map nd) := by rw [hOW.1]; exact hVs
  have e15 : p15 6000 W (⟨T.xs, T.cap⟩ : Sl Nd) = some true := p15_eq (hOW.1.trans hO.1.symm) (hVW.bd hn) hOwn
  have hf := (hV.bd hn).few
  have e4 : p4_l1 6000 t 6000 0 = some (.inl ()) := p4_l1_eq hn hV 6000 0 (by omega) (by omega)
  obtain ⟨z, hz⟩ := p16_no hn hV (p := ⟨[7, 7], some 2⟩) (fun y hy h7 => by have := hL y hy 7 (by rw [h7]; simp); omega)
  unfold p4
  rw [ht, Option.bind_some, he, Option.bind_some, hT, Option.bind_some, hW, Option.bind_some, if_pos (by simp), e15, Option.bind_some, Option.bind_some]
  simp only [Bool.not_true, if_true]
  rw [p10_eq hn hVW, p10_eq hn hV]
  simp only [Option.bind_some, bne_self_eq_false, if_true, if_neg Bool.false_ne_true]
  rw [e4, Option.bind_some, lrl, hz, Option.bind_some]
  rw [if_pos (show (!(z, false).2) = true from rfl), p18_eq rfl (hV.bd hn), Option.bind_some, Option.bind_some, if_pos rfl, livesE]
  rfl
end Go.Proofs.Ytmcpcdmonglkjaa
