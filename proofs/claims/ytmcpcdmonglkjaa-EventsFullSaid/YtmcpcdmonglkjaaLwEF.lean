/- Events: the law of a full tree. Plain theorems, no condition. -/
import Derived.Test.YtmcpcdmonglkjaaEV6
import Derived.Test.YtmcpcdmonglkjaaPf1
import Derived.Test.YtmcpcdmonglkjaaXE16
set_option linter.unusedVariables false
set_option linter.unusedSimpArgs false
namespace Go.Proofs.Ytmcpcdmonglkjaa
open Go.RowKit

def pth (k : Int) : List Int := if 56 ≤ k then [1 + (k - 56) / 49, 1 + (k - 56) / 7 % 7, 1 + (k - 56) % 7] else if 7 ≤ k then [1 + (k - 7) / 7 % 7, 1 + (k - 7) % 7] else [1 + k % 7]
def stepF (t : List N) (k : Int) : List N × Int := if (stepN t 1 (pth k) 0).2 = 0 ∧ k < 56 then stepN (stepN t 1 (pth k) 0).1 2 (pth k) (k + 1) else stepN t 1 (pth k) 0
def runF : Nat → Nat → List N → Option (List N)
  | 0, _, t => some t
  | m + 1, k, t => match stepF t (k : Int) with | (u, e) => if e = 0 ∧ (u.length : Int) = k + 1 then runF m (k + 1) u else .none
def finF (t : List N) (d : Int) : Bool :=
  match idx t (125 - d) with
  | some y => match stepN t 4 y.1 0 with
    | (u, e) => match stepN u 1 [7, 7, 1] 0 with
      | (v, f) => decide (e = 0) && decide (u.length = 126) && decide (f = 0) && decide (v.length = 127) && plcd y.1
  | .none => false
def allF : Bool := match runF 127 0 [] with
  | some t => decide (t.length = 127) && decide ((stepN t 1 [7, 7, 1] 0).2 = 9) && finF t 0 && finF t 1 && finF t 2 && finF t 3 && finF t 4 && finF t 5
  | .none => false
set_option maxRecDepth 1000000 in
theorem allF_ok : allF = true := by kernel_rfl
theorem pth_ok (k : Nat) (h : k < 127) : ∃ c, (((if (decide ((k : Int) ≥ 7)) then ((ckI .i64 ((k : Int) - 7)).bind fun x_35 => (quoI .i64 x_35 7).bind fun x_36 => (remI .i64 x_36 7).bind fun x_37 => (ckI .i64 ((k : Int) - 7)).bind fun x_38 => (remI .i64 x_38 7).bind fun x_39 => some (⟨[IntKind.wrap .u8 (1 + (IntKind.wrap .u8 x_37)), IntKind.wrap .u8 (1 + (IntKind.wrap .u8 x_39))], some 2⟩ : Sl (Int))) else some (⟨[IntKind.wrap .u8 (1 + (IntKind.wrap .u8 ((k : Int) % 7)))], some 1⟩ : Sl (Int))).bind fun (j_32 : (Sl (Int))) => (if (decide ((k : Int) ≥ 56)) then ((ckI .i64 ((k : Int) - 56)).bind fun x_59 => (quoI .i64 x_59 49).bind fun x_60 => (ckI .i64 ((k : Int) - 56)).bind fun x_61 => (quoI .i64 x_61 7).bind fun x_62 => (remI .i64 x_62 7).bind fun x_63 => (ckI .i64 ((k : Int) - 56)).bind fun x_64 => (remI .i64 x_64 7).bind fun x_65 => some (⟨[IntKind.wrap .u8 (1 + (IntKind.wrap .u8 x_60)), IntKind.wrap .u8 (1 + (IntKind.wrap .u8 x_63)), IntKind.wrap .u8 (1 + (IntKind.wrap .u8 x_65))], some 3⟩ : Sl (Int))) else some j_32))) = some (⟨pth k, c⟩ : Sl Int) := by
  have w : ∀ z : Int, 0 ≤ z → z ≤ 6 → IntKind.wrap .u8 (1 + IntKind.wrap .u8 z) = 1 + z := fun z h1 h2 => by rw [wrap_u8, wrap_u8]; omega
  by_cases h56 : 56 ≤ k
  · have n1 : (0 : Int) ≤ (k : Int) - 56 := by omega
    have n2 : (0 : Int) ≤ (k : Int) - 7 := by omega
    have n3 : (0 : Int) ≤ ((k : Int) - 56) / 7 := Int.ediv_nonneg n1 (by decide)
    have n4 : (0 : Int) ≤ ((k : Int) - 7) / 7 := Int.ediv_nonneg n2 (by decide)
    have hp : pth k = [1 + ((k : Int) - 56) / 49, 1 + ((k : Int) - 56) / 7 % 7, 1 + ((k : Int) - 56) % 7] := if_pos (by omega)
    refine ⟨some 3, ?_⟩
    rw [hp, if_pos (decide_eq_true (by omega)), ckS (by omega) (by omega), Option.bind_some, quoS n2 (by decide) (by omega), Option.bind_some, remS n4 (by decide) (by omega), Option.bind_some, Option.bind_some, remS n2 (by decide) (by omega), Option.bind_some, Option.bind_some, if_pos (decide_eq_true (by omega)), ckS (by omega) (by omega), Option.bind_some, quoS n1 (by decide) (by omega), Option.bind_some, Option.bind_some, quoS n1 (by decide) (by omega), Option.bind_some, remS n3 (by decide) (by omega), Option.bind_some, Option.bind_some, remS n1 (by decide) (by omega), Option.bind_some, w _ (by omega) (by omega), w _ (by omega) (by omega), w _ (by omega) (by omega)]
  · by_cases h7 : 7 ≤ k
    · have n2 : (0 : Int) ≤ (k : Int) - 7 := by omega
      have n4 : (0 : Int) ≤ ((k : Int) - 7) / 7 := Int.ediv_nonneg n2 (by decide)
      have hp : pth k = [1 + ((k : Int) - 7) / 7 % 7, 1 + ((k : Int) - 7) % 7] := (if_neg (by omega)).trans (if_pos (by omega))
      refine ⟨some 2, ?_⟩
      rw [hp, if_pos (decide_eq_true (by omega)), ckS (by omega) (by omega), Option.bind_some, quoS n2 (by decide) (by omega), Option.bind_some, remS n4 (by decide) (by omega), Option.bind_some, Option.bind_some, remS n2 (by decide) (by omega), Option.bind_some, Option.bind_some, if_neg (by rw [decide_eq_true_eq]; omega), w _ (by omega) (by omega), w _ (by omega) (by omega)]
    · have hp : pth k = [1 + (k : Int) % 7] := (if_neg (by omega)).trans (if_neg (by omega))
      refine ⟨some 1, ?_⟩
      rw [hp, if_neg (by rw [decide_eq_true_eq]; omega), Option.bind_some, if_neg (by rw [decide_eq_true_eq]; omega), w _ (by omega) (by omega)]
theorem pth_plcd (k : Int) (h0 : 0 ≤ k) (h : k < 127) : plcd (pth k) = true := by
  rw [plcd_iff]
  unfold pth
  by_cases h56 : 56 ≤ k
  · rw [if_pos h56]
    refine ⟨by simp, fun a ha => ?_⟩
    simp only [List.mem_cons, List.not_mem_nil, or_false] at ha
    rcases ha with rfl | rfl | rfl <;> omega
  · rw [if_neg h56]
    by_cases h7 : 7 ≤ k
    · rw [if_pos h7]
      refine ⟨by simp, fun a ha => ?_⟩
      simp only [List.mem_cons, List.not_mem_nil, or_false] at ha
      rcases ha with rfl | rfl <;> omega
    · rw [if_neg h7]
      refine ⟨by simp, fun a ha => ?_⟩
      simp only [List.mem_cons, List.not_mem_nil, or_false] at ha
      subst ha; omega
theorem p3_l1_run {n : Nat} (hn : 1000 < n) : ∀ (m k f : Nat) (T : Sl Nd) (r : List N), k + m = 127 → m < f → V (T.xs.map nd) → runF m k (T.xs.map nd) = some r → ∃ S : Sl Nd, p3_l1 n f k T = some (.inl S) ∧ S.xs.map nd = r ∧ V r := by
  intro m
  induction m with
  | zero =>
    intro k f T r hk hf hV hr
    obtain ⟨f, rfl⟩ : ∃ q, f = q + 1 := ⟨f - 1, by omega⟩
    rw [p3_l1, if_neg (by rw [decide_eq_true_eq]; omega)]
    have e : T.xs.map nd = r := Option.some.inj hr
    exact ⟨T, rfl, e, e ▸ hV⟩
  | succ m IH =>
    intro k f T r hk hf hV hr
    obtain ⟨f, rfl⟩ : ∃ q, f = q + 1 := ⟨f - 1, by omega⟩
    obtain ⟨c, hp⟩ := pth_ok k (by omega)
    have hpl := pth_plcd k (by omega) (by omega)
    have ok1 : EvOk ((0, 1, ⟨pth k, c⟩, 0) : Ev) := ⟨by show (1 : Int) ≤ 1 ∧ (1 : Int) ≤ 4; omega, hpl, rfl⟩
    obtain ⟨W, hW, hWo, _⟩ := p9_eq hn hV ok1
    have hVs := V.step hV (w := 1) (p := pth k) (ad := 0) ok1.1 hpl rfl
    have hWo1 : W.xs.map nd = (stepN (T.xs.map nd) 1 (pth k) 0).1 := hWo.1
    have hW' : p9 n T (0, 1, ⟨pth k, c⟩, 0) = some (W, (stepN (T.xs.map nd) 1 (pth k) 0).2) := hW
    have r7 : remI .i64 (k : Int) 7 = some ((k : Int) % 7) := remS (by omega) (by decide) (by omega)
    unfold runF at hr
    obtain ⟨Z, hj, hz, hVz⟩ : ∃ Z : Sl Nd, ((if ((stepN (T.xs.map nd) 1 (pth k) 0).2 == 0) = true then some (decide ((k : Int) < 56)) else some false).bind fun q_80 => (if q_80 = true then ((ckI .i64 ((k : Int) + 1)).bind fun x_95 => (p9 n W (0, 2, ⟨pth k, c⟩, IntKind.wrap .u8 x_95)).bind fun t_98 => some (t_98.2, t_98.1)) else some ((stepN (T.xs.map nd) 1 (pth k) 0).2, W))) = some ((stepF (T.xs.map nd) k).2, Z) ∧ Z.xs.map nd = (stepF (T.xs.map nd) k).1 ∧ V (Z.xs.map nd) := by
      unfold stepF
      by_cases hc : (stepN (T.xs.map nd) 1 (pth k) 0).2 = 0 ∧ (k : Int) < 56
      · have hw : IntKind.wrap .u8 ((k : Int) + 1) = (k : Int) + 1 := by rw [wrap_u8]; omega
        have ha : adr 2 ((k : Int) + 1) = true := by unfold adr; rw [if_pos rfl, decide_eq_true (by omega), decide_eq_true (by omega)]; rfl
        have ok2 : EvOk ((0, 2, ⟨pth k, c⟩, (k : Int) + 1) : Ev) := ⟨by show (1 : Int) ≤ 2 ∧ (2 : Int) ≤ 4; omega, hpl, ha⟩
        obtain ⟨X, hX, hXo, _⟩ := p9_eq (t := W) hn (by rw [hWo1]; exact hVs) ok2
        have hX' : p9 n W (0, 2, ⟨pth k, c⟩, (k : Int) + 1) = some (X, (stepN (W.xs.map nd) 2 (pth k) ((k : Int) + 1)).2) := hX
        have hXo1 : X.xs.map nd = (stepN (W.xs.map nd) 2 (pth k) ((k : Int) + 1)).1 := hXo.1
        have hVx := V.step (t := W.xs.map nd) (by rw [hWo1]; exact hVs) (w := 2) (p := pth k) (ad := (k : Int) + 1) ok2.1 hpl ha
        rw [hWo1] at hX' hXo1 hVx
        rw [if_pos (by simp [hc.1]), Option.bind_some, if_pos (decide_eq_true hc.2), ckS (by omega) (by omega), Option.bind_some, hw, hX', Option.bind_some, if_pos hc]
        exact ⟨X, rfl, hXo1, by rw [hXo1]; exact hVx⟩
      · refine ⟨W, ?_, by rw [if_neg hc]; exact hWo1, by rw [hWo1]; exact hVs⟩
        rw [if_neg hc]
        by_cases h0 : (stepN (T.xs.map nd) 1 (pth k) 0).2 = 0
        · rw [if_pos (by simp [h0]), Option.bind_some, if_neg (by rw [decide_eq_true_eq]; exact fun h => hc ⟨h0, h⟩)]
        · rw [if_neg (by simpa using h0), Option.bind_some, if_neg Bool.false_ne_true]
    rw [p3_l1, if_pos (decide_eq_true (by omega)), r7, Option.bind_some]
    obtain ⟨u, e, hue⟩ : ∃ u e, stepF (T.xs.map nd) (k : Int) = (u, e) := ⟨_, _, rfl⟩
    rw [hue] at hr hj hz
    simp only at hr hj hz
    by_cases hc : e = 0 ∧ (u.length : Int) = k + 1
    · rw [if_pos hc] at hr
      have full : ∀ {α : Type} (g : Sl Int → Option α), ((if (decide ((k : Int) ≥ 7)) then ((ckI .i64 ((k : Int) - 7)).bind fun x_35 => (quoI .i64 x_35 7).bind fun x_36 => (remI .i64 x_36 7).bind fun x_37 => (ckI .i64 ((k : Int) - 7)).bind fun x_38 => (remI .i64 x_38 7).bind fun x_39 => some (⟨[IntKind.wrap .u8 (1 + (IntKind.wrap .u8 x_37)), IntKind.wrap .u8 (1 + (IntKind.wrap .u8 x_39))], some 2⟩ : Sl (Int))) else some (⟨[IntKind.wrap .u8 (1 + (IntKind.wrap .u8 ((k : Int) % 7)))], some 1⟩ : Sl (Int))).bind fun (j_32 : (Sl (Int))) => (if (decide ((k : Int) ≥ 56)) then ((ckI .i64 ((k : Int) - 56)).bind fun x_59 => (quoI .i64 x_59 49).bind fun x_60 => (ckI .i64 ((k : Int) - 56)).bind fun x_61 => (quoI .i64 x_61 7).bind fun x_62 => (remI .i64 x_62 7).bind fun x_63 => (ckI .i64 ((k : Int) - 56)).bind fun x_64 => (remI .i64 x_64 7).bind fun x_65 => some (⟨[IntKind.wrap .u8 (1 + (IntKind.wrap .u8 x_60)), IntKind.wrap .u8 (1 + (IntKind.wrap .u8 x_63)), IntKind.wrap .u8 (1 + (IntKind.wrap .u8 x_65))], some 3⟩ : Sl (Int))) else some j_32).bind g) = g ⟨pth k, c⟩ := fun g => by
        rw [← Option.bind_assoc, hp, Option.bind_some]
      rw [full, hW', Option.bind_some]
      rw [← Option.bind_assoc, hj, Option.bind_some]
      have hlz : lenI Z = (k : Int) + 1 := by
        have := congrArg List.length hz
        rw [List.length_map] at this
        unfold lenI
        rw [this]; exact hc.2
      have hb2 : (lenI Z != (k : Int) + 1) = false := by rw [hlz]; exact bne_self_eq_false _
      rw [if_pos (by simp [hc.1]), ckS (by omega) (by omega), Option.bind_some, Option.bind_some, hb2, if_neg Bool.false_ne_true, Option.bind_some, succI]
      exact IH (k + 1) f Z r (by omega) (by omega) hVz (by rw [hz]; exact hr)
    · rw [if_neg hc] at hr; cases hr
theorem p3_law {x0 : Int} (G0 : InR .u8 x0) : p3 6000 x0 = some true := by
  have hn : 1000 < 6000 := by omega
  have hx := inR_u8.1 G0
  have hall := allF_ok
  unfold allF at hall
  cases hr : runF 127 0 [] with
  | none => rw [hr] at hall; cases hall
  | some t =>
    rw [hr] at hall
    simp only [Bool.and_eq_true, decide_eq_true_eq] at hall
    obtain ⟨⟨⟨⟨⟨⟨⟨hlen, h9⟩, f0⟩, f1⟩, f2⟩, f3⟩, f4⟩, f5⟩ := hall
    obtain ⟨S, hS, hSr, hV⟩ := p3_l1_run hn 127 0 6000 ⟨[], some 0⟩ t rfl (by omega) V.nil hr
    have hS' : p3_l1 6000 6000 0 ⟨[], some 0⟩ = some (.inl S) := hS
    have hfin : finF t (x0 % 6) = true := by
      have : x0 % 6 = 0 ∨ x0 % 6 = 1 ∨ x0 % 6 = 2 ∨ x0 % 6 = 3 ∨ x0 % 6 = 4 ∨ x0 % 6 = 5 := by omega
      rcases this with h | h | h | h | h | h
      · rw [h]; exact f0
      · rw [h]; exact f1
      · rw [h]; exact f2
      · rw [h]; exact f3
      · rw [h]; exact f4
      · rw [h]; exact f5
    have hVS : V (S.xs.map nd) := by rw [hSr]; exact hV
    have hlS : S.xs.length = 127 := by have := congrArg List.length hSr; rw [List.length_map] at this; omega
    have ok7 : EvOk ((0, 1, ⟨[7, 7, 1], some 3⟩, 0) : Ev) := ⟨by show (1 : Int) ≤ 1 ∧ (1 : Int) ≤ 4; omega, rfl, rfl⟩
    obtain ⟨A, hA, _, _⟩ := p9_eq hn hVS ok7
    have hA' : p9 6000 S (0, 1, ⟨[7, 7, 1], some 3⟩, 0) = some (A, (stepN t 1 [7, 7, 1] 0).2) := by rw [← hSr]; exact hA
    have r6 : remI .u8 x0 6 = some (x0 % 6) := remI_ok hx.1 (by decide) (inR_u8.2 (by omega))
    obtain ⟨i, hi, hi2⟩ : ∃ i : Nat, (125 - x0 % 6) = (i : Int) ∧ i < 127 := ⟨(125 - x0 % 6).toNat, by omega, by omega⟩
    have hiS : i < S.xs.length := by omega
    have hit : i < t.length := by omega
    have hg : t[i] = nd S.xs[i] := by subst hSr; rw [List.getElem_map]
    unfold finF at hfin
    rw [hi, ixN hit] at hfin
    simp only at hfin
    obtain ⟨u, e, hue⟩ : ∃ u e, stepN t 4 t[i].1 0 = (u, e) := ⟨_, _, rfl⟩
    rw [hue] at hfin
    simp only at hfin
    obtain ⟨v, f, hvf⟩ : ∃ v f, stepN u 1 [7, 7, 1] 0 = (v, f) := ⟨_, _, rfl⟩
    rw [hvf] at hfin
    simp only [Bool.and_eq_true, decide_eq_true_eq] at hfin
    obtain ⟨⟨⟨⟨g1, g2⟩, g3⟩, g4⟩, g5⟩ := hfin
    have ok4 : EvOk ((0, 4, S.xs[i].1, 0) : Ev) := ⟨by show (1 : Int) ≤ 4 ∧ (4 : Int) ≤ 4; omega, by rw [hg] at g5; exact g5, rfl⟩
    obtain ⟨B, hB, hBo, _⟩ := p9_eq hn hVS ok4
    have hst : stepN (S.xs.map nd) 4 S.xs[i].1.xs 0 = (u, e) := by rw [hSr, ← hue, hg]; rfl
    have hB' : p9 6000 S (0, 4, S.xs[i].1, 0) = some (B, e) := by
      have : p9 6000 S (0, 4, S.xs[i].1, 0) = some (B, (stepN (S.xs.map nd) 4 S.xs[i].1.xs 0).2) := hB
      rw [hst] at this; exact this
    have hBu : B.xs.map nd = u := by
      have : B.xs.map nd = (stepN (S.xs.map nd) 4 S.xs[i].1.xs 0).1 := hBo.1
      rw [hst] at this; exact this
    have hVB : V (B.xs.map nd) := by
      have := V.step hVS (w := 4) (p := S.xs[i].1.xs) (ad := 0) ok4.1 ok4.2.1 rfl
      rw [hst] at this
      rw [hBu]; exact this
    obtain ⟨C, hC, hCo, _⟩ := p9_eq hn hVB ok7
    have hC' : p9 6000 B (0, 1, ⟨[7, 7, 1], some 3⟩, 0) = some (C, f) := by
      have : p9 6000 B (0, 1, ⟨[7, 7, 1], some 3⟩, 0) = some (C, (stepN (B.xs.map nd) 1 [7, 7, 1] 0).2) := hC
      rw [hBu, hvf] at this; exact this
    have hCv : C.xs.map nd = v := by
      have : C.xs.map nd = (stepN (B.xs.map nd) 1 [7, 7, 1] 0).1 := hCo.1
      rw [hBu, hvf] at this; exact this
    have hVC : V (C.xs.map nd) := by
      have := V.step hVB (w := 1) (p := [7, 7, 1]) (ad := 0) ok7.1 rfl rfl
      rw [hBu, hvf] at this
      rw [hCv]; exact this
    have hlB : lenI B = 126 := by have := congrArg List.length hBu; rw [List.length_map] at this; unfold lenI; omega
    have hlC : lenI C = 127 := by have := congrArg List.length hCv; rw [List.length_map] at this; unfold lenI; omega
    have hlS' : lenI S = 127 := by unfold lenI; omega
    have e1 : ckI .i64 (lenI S - 2) = some 125 := by rw [hlS']; rfl
    have e2 : ckI .i64 ((125 : Int) - x0 % 6) = some (i : Int) := by rw [hi]; exact ckS (by omega) (by omega)
    unfold p3
    rw [hS', Option.bind_some, lrl, hA', Option.bind_some, e1, Option.bind_some, r6, Option.bind_some, e2, Option.bind_some, ixN hiS, Option.bind_some, hB', Option.bind_some, hC', Option.bind_some, h9, g1, g3, hlB, hlC]
    rw [if_pos (by rfl), Option.bind_some, if_pos (by rfl), Option.bind_some, if_pos (by rfl), Option.bind_some, if_pos (by rfl), Option.bind_some, if_pos (by rfl), p10_eq hn hVC, Option.bind_some, Option.bind_some, if_pos (by rfl), livesE]
    rfl
end Go.Proofs.Ytmcpcdmonglkjaa
