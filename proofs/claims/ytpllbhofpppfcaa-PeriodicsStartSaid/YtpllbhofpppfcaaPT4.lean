/- Periods in plain words: the law on the plans that Start accepts. Plain theorems, no condition. -/
import Derived.Test.YtpllbhofpppfcaaPT3
set_option linter.unusedVariables false
set_option linter.unusedSimpArgs false
namespace Go.Proofs.Ytpllbhofpppfcaa
open Go.RowKit

theorem p25_eq (n : Nat) (x : Sl Int) (h : x.xs.length ≤ 1000000) : ∃ c, p25 n x = some ⟨x.xs, c⟩ := by
  unfold p25
  rw [mkI_ok (by decide) (by simp [lenI]) (by simp [lenI]; omega), Option.bind_some]
  refine ⟨capA (some (lenI x).toNat) x.xs.length, ?_⟩
  dsimp only
  rw [show List.replicate (0 : Int).toNat (0 : Int) = [] from rfl, appI_ok (by simp; omega), Option.bind_some, List.nil_append]
theorem p16_l1_ok (n : Nat) (x : Bool × Int × Int × Sl (Sl Int) × Int) (hL : x.2.2.2.1.xs.length ≤ 300) : ∀ (m k : Nat), x.2.2.2.1.xs.length < k + m → k ≤ x.2.2.2.1.xs.length → p16_l1 n x m k = some (.inr false) ∨ p16_l1 n x m k = some (.inl ()) ∧ ∀ y ∈ x.2.2.2.1.xs.drop k, y.xs.length ≤ 100
  | 0, k, h, hk => by omega
  | m + 1, k, h, hk => by
    unfold p16_l1
    by_cases hlt : k < x.2.2.2.1.xs.length
    · have ex := List.drop_eq_getElem_cons hlt
      rw [if_pos (by simp [lenI]; omega), idx_nat, List.getElem?_eq_getElem hlt, Option.bind_some]
      by_cases hb : (x.2.2.2.1.xs[k]).xs.length > 100
      · rw [if_pos (by simp [lenI]; omega)]; exact .inl rfl
      · rw [if_neg (by simp [lenI]; omega), ck_i64 (by omega), Option.bind_some, show ((k : Int) + 1) = ((k + 1 : Nat) : Int) by simp]
        rcases p16_l1_ok n x hL m (k + 1) (by omega) (by omega) with h1 | ⟨h1, h2⟩
        · exact .inl h1
        · refine .inr ⟨h1, ?_⟩
          rw [ex]
          intro y hy
          rcases List.mem_cons.1 hy with rfl | hy
          · omega
          · exact h2 y hy
    · rw [if_neg (by simp [lenI]; omega), List.drop_eq_nil_of_le (by omega)]
      exact .inr ⟨rfl, fun y hy => by cases hy⟩
theorem p17_l1_ok (n : Nat) (x : Bool × Int × Int × Sl (Sl Int) × Int) (hL : x.2.2.2.1.xs.length ≤ 300) : ∀ (m k : Nat), x.2.2.2.1.xs.length < k + m → k ≤ x.2.2.2.1.xs.length → p17_l1 n x m k = some (if ∀ y ∈ x.2.2.2.1.xs.drop k, lenI y ≤ x.2.2.1 then .inl () else .inr 3)
  | 0, k, h, hk => by omega
  | m + 1, k, h, hk => by
    unfold p17_l1
    by_cases hlt : k < x.2.2.2.1.xs.length
    · have ex := List.drop_eq_getElem_cons hlt
      rw [if_pos (by simp [lenI]; omega), idx_nat, List.getElem?_eq_getElem hlt, Option.bind_some, ex]
      by_cases hb : lenI x.2.2.2.1.xs[k] > x.2.2.1
      · rw [if_pos (decide_eq_true hb), if_neg (fun h => by have := h _ (List.mem_cons_self ..); omega)]
      · rw [if_neg (by rw [decide_eq_true_eq]; exact hb), ck_i64 (by omega), Option.bind_some, show ((k : Int) + 1) = ((k + 1 : Nat) : Int) by simp, p17_l1_ok n x hL m (k + 1) (by omega) (by omega)]
        congr 1
        have : (∀ y ∈ x.2.2.2.1.xs[k] :: x.2.2.2.1.xs.drop (k + 1), lenI y ≤ x.2.2.1) ↔ (∀ y ∈ x.2.2.2.1.xs.drop (k + 1), lenI y ≤ x.2.2.1) := by
          rw [List.forall_mem_cons]; exact ⟨fun h => h.2, fun h => ⟨by omega, h⟩⟩
        simp only [this]
    · rw [if_neg (by simp [lenI]; omega), List.drop_eq_nil_of_le (by omega), if_pos (fun y hy => by cases hy)]
def zeroT : (Bool × Int × Int × Sl (Sl Int) × Int) × Int × Sl (Int × Sl Int) := ((false, 0, 0, ⟨[], some 0⟩, 0), 0, ⟨[], some 0⟩)
theorem p18_l1_ok (n : Nat) (x : Bool × Int × Int × Sl (Sl Int) × Int) (hL : x.2.2.2.1.xs.length ≤ 300) (hs : ∀ y ∈ x.2.2.2.1.xs, y.xs.length ≤ 100) : ∀ (m k : Nat) (acc : List (Sl Int)), x.2.2.2.1.xs.length < k + m → k ≤ x.2.2.2.1.xs.length → acc.length = k → (∀ y ∈ acc, y.xs.length ≤ 100) →
    if ∀ y ∈ x.2.2.2.1.xs.drop k, lenI y ≤ x.2.2.1 then ∃ s, p18_l1 n x m k acc = some (.inl s) ∧ s.length = x.2.2.2.1.xs.length ∧ ∀ y ∈ s, y.xs.length ≤ 100 else p18_l1 n x m k acc = some (.inr (zeroT, 3))
  | 0, k, acc, h, hk, _, _ => by omega
  | m + 1, k, acc, h, hk, ha, hb => by
    unfold p18_l1
    by_cases hlt : k < x.2.2.2.1.xs.length
    · have ex := List.drop_eq_getElem_cons hlt
      rw [if_pos (show decide ((k : Int) < lenI x.2.2.2.1) = true by simp [lenI]; omega), idx_nat, List.getElem?_eq_getElem hlt, Option.bind_some, ex]
      by_cases hc : lenI x.2.2.2.1.xs[k] > x.2.2.1
      · rw [if_neg (fun h => by have := h _ (List.mem_cons_self ..); omega), if_pos (decide_eq_true hc)]; rfl
      · have hy := hs _ (List.getElem_mem hlt)
        obtain ⟨c, hc25⟩ := p25_eq n x.2.2.2.1.xs[k] (by omega)
        rw [if_neg (c := decide (lenI x.2.2.2.1.xs[k] > x.2.2.1) = true) (by rw [decide_eq_true_eq]; exact hc), hc25, Option.bind_some, appI_ok (by simp; omega), Option.bind_some, ck_i64 (by omega), Option.bind_some, show ((k : Int) + 1) = ((k + 1 : Nat) : Int) by simp]
        have ih := p18_l1_ok n x hL hs m (k + 1) (acc ++ [⟨x.2.2.2.1.xs[k].xs, c⟩]) (by omega) (by omega) (by simp [ha]) (by
          intro y hy2
          rcases List.mem_append.1 hy2 with h2 | h2
          · exact hb y h2
          · obtain rfl := List.mem_singleton.1 h2; exact hy)
        have : (∀ y ∈ x.2.2.2.1.xs[k] :: x.2.2.2.1.xs.drop (k + 1), lenI y ≤ x.2.2.1) ↔ (∀ y ∈ x.2.2.2.1.xs.drop (k + 1), lenI y ≤ x.2.2.1) := by
          rw [List.forall_mem_cons]; exact ⟨fun h => h.2, fun h => ⟨by omega, h⟩⟩
        simp only [this]
        exact ih
    · rw [if_neg (c := decide ((k : Int) < lenI x.2.2.2.1) = true) (by simp [lenI]; omega), List.drop_eq_nil_of_le (by omega), if_pos (fun y hy => by cases hy)]
      exact ⟨acc, rfl, by omega, hb⟩
theorem bad7 : (p19 6000 zeroT = some ((0, 0, 0, false, false, 0, ⟨[], some 0⟩), false)) ∧ p20 6000 zeroT = some (⟨[], some 0⟩, false) ∧ p21 6000 zeroT (1, ⟨[], some 0⟩) = some zeroT := ⟨rfl, rfl, rfl⟩
theorem p7_bad {x : Bool × Int × Int × Sl (Sl Int) × Int} {e : Int} (h16 : p16 6000 x = some true) (h17 : p17 6000 x = some e) (h18 : p18 6000 x = some (zeroT, e)) (he : (e == 0) = false) : p7 6000 x = some true := by
  unfold p7
  rw [h16, Option.bind_some, if_neg (by decide), h17, Option.bind_some, h18, Option.bind_some]
  dsimp only
  rw [show (e != e) = false by simp, if_neg (by decide), bad7.1, Option.bind_some, bad7.2.1, Option.bind_some]
  dsimp only
  rw [if_pos rfl, Option.bind_some, show decide (lenI (⟨[], some 0⟩ : Sl (Int × Sl Int)) > 0) = false from rfl, if_pos rfl, he, Option.bind_some, show (!(false == false)) = false from rfl, if_neg (by decide), if_neg (by decide), bad7.2.2, Option.bind_some, bad7.1, Option.bind_some, bad7.2.1, Option.bind_some]
  dsimp only
  rw [ifNot, Option.bind_some, if_pos (show (!false) = true from rfl), p10_ok]; rfl
theorem p7_law {x : Bool × Int × Int × Sl (Sl Int) × Int} (hf : Fine (.st (.pair .bool (.pair (.int .u8) (.pair (.int .i64) (.pair (.sl (.sl (.int .u8))) (.int .i64)))))) x) : p7 6000 x = some true := by
  by_cases hL : x.2.2.2.1.xs.length ≤ 300
  · have h16 : p16 6000 x = some false ∨ p16 6000 x = some true ∧ ∀ y ∈ x.2.2.2.1.xs, y.xs.length ≤ 100 := by
      unfold p16
      rw [if_neg (by simp [lenI]; omega)]
      rcases p16_l1_ok 6000 x hL 6000 0 (by omega) (by omega) with h | ⟨h, h2⟩
      · left; rw [show ((0 : Nat) : Int) = 0 from rfl] at h; rw [h]; rfl
      · right; rw [show ((0 : Nat) : Int) = 0 from rfl] at h; rw [h]; exact ⟨rfl, by simpa using h2⟩
    rcases h16 with h16 | ⟨h16, hs⟩
    · unfold p7; rw [h16, Option.bind_some, ifNot]
    · have h17l := p17_l1_ok 6000 x hL 6000 0 (by omega) (by omega)
      have h18l := p18_l1_ok 6000 x hL hs 6000 0 [] (by omega) (by omega) rfl (by simp)
      rw [show ((0 : Nat) : Int) = 0 from rfl, List.drop_zero] at h17l h18l
      obtain ⟨i, e, mx_, pk, many⟩ := x
      dsimp only at *
      have hlen : 0 ≤ lenI pk := by simp [lenI]
      obtain ⟨y17, e17⟩ : ∃ y, p17 6000 (i, e, mx_, pk, many) = y := ⟨_, rfl⟩
      obtain ⟨y18, e18⟩ : ∃ y, p18 6000 (i, e, mx_, pk, many) = y := ⟨_, rfl⟩
      have h17 := e17
      have h18 := e18
      unfold p17 at h17
      unfold p18 at h18
      dsimp only at h17 h18
      by_cases c1 : e < 1 ∨ e > 15 ∨ mx_ < 1 ∨ mx_ > 1024
      · refine p7_bad h16 (e := 1) ?_ ?_ rfl
        · rw [e17, ← h17]
          have he : e < 1 → e = 0 := fun h => by have := (inR_u8.1 hf.2.1).1; dsimp only at this; omega
          rw [orK (c := decide (e > 15)) (fun _ => rfl), Option.bind_some, orK (c := decide (mx_ < 1)) (fun _ => rfl), Option.bind_some, orK (c := decide (mx_ > 1024)) (fun _ => rfl), Option.bind_some, if_pos]
          simp only [Bool.or_eq_true, decide_eq_true_eq, beq_iff_eq]
          omega
        · rw [e18, ← h18, orK (c := decide (e > 15)) (fun _ => rfl), Option.bind_some, orK (c := decide (mx_ < 1)) (fun _ => rfl), Option.bind_some, orK (c := decide (mx_ > 1024)) (fun _ => rfl), Option.bind_some, if_pos]
          · rfl
          · simp only [Bool.or_eq_true, decide_eq_true_eq]; omega
      · rw [orK (c := decide (e > 15)) (fun _ => rfl), Option.bind_some, orK (c := decide (mx_ < 1)) (fun _ => rfl), Option.bind_some, orK (c := decide (mx_ > 1024)) (fun _ => rfl), Option.bind_some, if_neg (by simp only [Bool.or_eq_true, decide_eq_true_eq, beq_iff_eq]; omega)] at h17
        rw [orK (c := decide (e > 15)) (fun _ => rfl), Option.bind_some, orK (c := decide (mx_ < 1)) (fun _ => rfl), Option.bind_some, orK (c := decide (mx_ > 1024)) (fun _ => rfl), Option.bind_some, if_neg (by simp only [Bool.or_eq_true, decide_eq_true_eq]; omega)] at h18
        have hin : (i = true → ¬ lenI pk = 0 ∨ many < 1) ∧ (i = false → lenI pk = 0 ∨ ¬ many = 0) ∨ ¬ ((i = true → ¬ lenI pk = 0 ∨ many < 1) ∧ (i = false → lenI pk = 0 ∨ ¬ many = 0)) := Classical.em _
        have k17 : (if i = true then (if (lenI pk != 0) = false then some (decide (many < 1)) else some true).bind fun q_22 => some q_22 else some false) = some (i && (decide (lenI pk ≠ 0) || decide (many < 1))) := by
          cases i
          · rfl
          · rw [if_pos rfl]; by_cases hz : lenI pk = 0 <;> simp [hz]
        have k18 : (if i = true then (if decide (lenI pk > 0) = false then some (decide (many < 1)) else some true).bind fun q_33 => some q_33 else some false) = some (i && (decide (lenI pk ≠ 0) || decide (many < 1))) := by
          cases i
          · rfl
          · rw [if_pos rfl]
            by_cases hz : lenI pk = 0
            · simp [hz]
            · rw [decide_eq_true (show lenI pk > 0 by omega), if_neg (by decide)]; simp [hz]
        have kb : (if (!i) = true then (if (lenI pk == 0) = false then some (many != 0) else some true).bind fun q_32 => some q_32 else some false) = some (!i && (decide (lenI pk = 0) || decide (many ≠ 0))) := by
          cases i
          · rw [ifNot]; by_cases hz : lenI pk = 0 <;> by_cases hm : many = 0 <;> simp [hz, hm]
          · rfl
        rw [k17, Option.bind_some, orK (c := !i && (decide (lenI pk = 0) || decide (many ≠ 0))) (fun _ => by rw [kb]; rfl), Option.bind_some] at h17
        rw [k18, Option.bind_some, orK (c := !i && (decide (lenI pk = 0) || decide (many ≠ 0))) (fun _ => by rw [kb]; rfl), Option.bind_some] at h18
        by_cases c2 : (i && (decide (lenI pk ≠ 0) || decide (many < 1)) || !i && (decide (lenI pk = 0) || decide (many ≠ 0))) = true
        · rw [if_pos c2] at h17 h18
          exact p7_bad h16 (e17.trans h17.symm) (e18.trans h18.symm) rfl
        · rw [if_neg c2] at h17 h18
          rw [orK (c := decide (lenI pk > 256)) (fun _ => rfl), Option.bind_some] at h17 h18
          by_cases c3 : (decide (many > 256) || decide (lenI pk > 256)) = true
          · rw [if_pos c3] at h17 h18
            exact p7_bad h16 (e17.trans h17.symm) (e18.trans h18.symm) rfl
          · rw [if_neg c3] at h17 h18
            simp only [Bool.or_eq_true, decide_eq_true_eq, not_or] at c3
            have hmany : (i = true → lenI pk = 0 ∧ 1 ≤ many) ∧ (i = false → many = 0 ∧ 1 ≤ lenI pk) := by
              cases i
              · refine ⟨fun h => Bool.noConfusion h, fun _ => ?_⟩
                by_cases z1 : lenI pk = 0 <;> by_cases z2 : many = 0 <;> simp [z1, z2] at c2
                omega
              · refine ⟨fun _ => ?_, fun h => Bool.noConfusion h⟩
                by_cases z1 : lenI pk = 0 <;> by_cases z2 : many < 1 <;> simp [z1, z2] at c2
                omega
            have hsum : 1 ≤ many + lenI pk ∧ many + lenI pk ≤ 600 := by
              cases i
              · have := hmany.2 rfl; omega
              · have := hmany.1 rfl; omega
            rw [ck_i64 (by omega), Option.bind_some] at h18
            rw [h17l] at h17
            by_cases c4 : ∀ y ∈ pk.xs, lenI y ≤ mx_
            · rw [if_pos c4] at h17 h18l
              obtain ⟨s, hs1, hs2, hs3⟩ := h18l
              rw [hs1] at h18
              rw [Option.bind_some] at h17 h18
              replace h17 : p17 6000 (i, e, mx_, pk, many) = some 0 := e17.trans h17.symm
              replace h18 : p18 6000 (i, e, mx_, pk, many) = some (((i, e, mx_, ⟨s, .none⟩, many), many + lenI pk, ⟨[], some 0⟩), 0) := e18.trans h18.symm
              have h19 : ∃ z, p19 6000 ((i, e, mx_, ⟨s, .none⟩, many), many + lenI pk, ⟨[], some 0⟩) = some (z, true) := by
                unfold p19
                dsimp only
                rw [show lenI (⟨[], some 0⟩ : Sl (Int × Sl Int)) = 0 from rfl, if_neg (by simp; omega)]
                cases i
                · have hp := hmany.2 rfl
                  rw [if_neg (by decide)]
                  have : 0 < s.length := by simp only [lenI] at hp; omega
                  have e0 : idx s 0 = some s[0] := by rw [show (0 : Int) = ((0 : Nat) : Int) from rfl, idx_nat, List.getElem?_eq_getElem this]
                  obtain ⟨c, hc⟩ := p25_eq 6000 s[0] (by have := hs3 _ (List.getElem_mem this); omega)
                  rw [e0, Option.bind_some, hc, Option.bind_some]
                  exact ⟨_, rfl⟩
                · rw [if_pos rfl]; exact ⟨_, rfl⟩
              obtain ⟨z, h19⟩ := h19
              have h20 : p20 6000 ((i, e, mx_, ⟨s, .none⟩, many), many + lenI pk, ⟨[], some 0⟩) = some (⟨[], some 0⟩, false) := by
                unfold p20
                dsimp only
                rw [show ((many + lenI pk) == 0) = false by simp; omega, if_pos rfl, Option.bind_some, show lenI (⟨[], some 0⟩ : Sl (Int × Sl Int)) = 0 from rfl, if_pos (by simp; omega)]
              unfold p7
              rw [h16, Option.bind_some, if_neg (by decide), h17, Option.bind_some, h18, Option.bind_some]
              dsimp only
              rw [if_neg (by decide), h19, Option.bind_some, h20, Option.bind_some]
              dsimp only
              rw [if_pos rfl, Option.bind_some, show decide (lenI (⟨[], some 0⟩ : Sl (Int × Sl Int)) > 0) = false from rfl, if_pos rfl, Option.bind_some, if_neg (by decide), if_pos rfl, p10_ok]; rfl
            · rw [if_neg c4] at h17 h18l
              rw [h18l] at h18
              exact p7_bad (e := 3) h16 (e17.trans h17.symm) (e18.trans h18.symm) rfl
  · unfold p7 p16
    rw [if_pos (by simp [lenI]; omega), Option.bind_some, ifNot]
end Go.Proofs.Ytpllbhofpppfcaa
