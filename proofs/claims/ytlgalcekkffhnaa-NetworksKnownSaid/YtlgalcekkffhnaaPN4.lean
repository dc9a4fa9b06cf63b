/- NetworksBack in plain words: every block. -/
import Derived.Test.YtlgalcekkffhnaaPN9
import Derived.Test.YtlgalcekkffhnaaPb1
import Derived.Test.YtlgalcekkffhnaaLB2
set_option linter.unusedVariables false
set_option linter.unusedSimpArgs false
namespace Go.Proofs.Ytlgalcekkffhnaa
open Go.RowKit
theorem lrK_inl {α β γ : Type} (a : α) (g : β → Option γ) (f : α → Option γ) : lrK (.inl a) g f = f a := rfl
theorem p13_l1_eq (n : Nat) (x y : Sl (Sl Int)) (hr : a_r x.xs = a_r y.xs) (hL : x.xs.length ≤ 1000000) : ∀ (m k : Nat), x.xs.length < k + m → k ≤ x.xs.length → p13_l1 n x y m k = some (.inl ())
  | 0, k, h, hk => by omega
  | m + 1, k, h, hk => by
    have hl : x.xs.length = y.xs.length := by have := congrArg List.length hr; simpa [a_r] using this
    unfold p13_l1
    by_cases hlt : k < x.xs.length
    · have hy : k < y.xs.length := by omega
      have e : x.xs[k].xs = y.xs[k].xs := by
        have := congrArg (fun l : List (List Int) => l[k]?) hr
        simpa [a_r, List.getElem?_eq_getElem hlt, List.getElem?_eq_getElem hy] using this
      rw [if_pos (by simp [a_d]; omega), a_I, a_I, List.getElem?_eq_getElem hlt, List.getElem?_eq_getElem hy, Option.bind_some, Option.bind_some, if_neg (by simp [e]), a_o (by omega), Option.bind_some,
        show ((k : Int) + 1) = ((k + 1 : Nat) : Int) by simp, p13_l1_eq n x y hr hL m (k + 1) (by omega) (by omega)]
    · rw [if_neg (by simp [a_d]; omega)]
theorem p13_eq (n : Nat) (x y : Sl (Sl Int)) (hr : a_r x.xs = a_r y.xs) (hL : x.xs.length < n) (hL' : x.xs.length ≤ 1000000) : p13 n x y = some true := by
  have hl : x.xs.length = y.xs.length := by have := congrArg List.length hr; simpa [a_r] using this
  have e : p13_l1 n x y n 0 = some (.inl ()) := p13_l1_eq n x y hr hL' n 0 (by omega) (by omega)
  unfold p13
  rw [if_neg (by simp [a_d, hl]), e, Option.bind_some]
  rfl
theorem p3_l5_eq (n m c : Nat) (t : Sl Int × Int) (hc : c ≤ 100000) (hz : ∀ j, c ≤ j → j < pad c → t.1.xs[j]? = some 0) : p3_l5 n t (m + 4) c = some (.inl ((pad c : Nat) : Int)) := by
  have step : ∀ (m c : Nat), c ≤ 200000 → (c % 4 ≠ 0 → t.1.xs[c]? = some 0) → p3_l5 n t (m + 1) c = if c % 4 = 0 then some (.inl (c : Int)) else p3_l5 n t m ((c + 1 : Nat) : Int) := by
    intro m c hc h0
    rw [p3_l5, a_S (by omega) (by decide) (by simp; omega), Option.bind_some]
    by_cases h : c % 4 = 0
    · rw [if_neg (by simp; omega), if_pos h]
    · rw [if_pos (by simp; omega), if_neg h, a_I, h0 h, Option.bind_some, if_neg (by decide), a_o (by omega), Option.bind_some]
      rfl
  unfold pad at hz
  rw [step _ _ (by omega) (fun h => hz _ (by omega) (by omega))]
  unfold pad
  split
  · congr 2; omega
  · rw [step _ _ (by omega) (fun h => hz _ (by omega) (by omega))]
    split
    · congr 2; omega
    · rw [step _ _ (by omega) (fun h => hz _ (by omega) (by omega))]
      split
      · congr 2; omega
      · rw [step _ _ (by omega) (fun h => hz _ (by omega) (by omega)), if_pos (by omega)]
        congr 2; omega
section
variable {num : Int} {fs : List (List Int)}
theorem p3_l4_step (g : Good num fs) (n' : Nat) (y : List Int × List (Sl Int)) (hy : a_r y.2 = fs) (tc : Option Nat) (te : Int) (t2 : (Int × Sl (Sl Int)) × Int) (ht2 : t2.1.2.xs = b_X fs) (m k : Nat) (hlt : k < fs.length) :
    p3_l4 (n' + 4) y (⟨b_m num fs, tc⟩, te) t2 ((12 + (body fs).length : Nat) : Int) (m + 1) k (off fs k : Int) = p3_l4 (n' + 4) y (⟨b_m num fs, tc⟩, te) t2 ((12 + (body fs).length : Nat) : Int) m ((k + 1 : Nat) : Int) (off fs (k + 1) : Int) := by
  have hb := g.body_le
  have hfe := g.few
  have hsm := g.small
  have hyl : y.2.length = fs.length := by rw [← hy]; simp [a_r]
  have hyk : k < y.2.length := by omega
  obtain ⟨⟨_, r1⟩, ⟨_, r2⟩⟩ := g.ent (n := n' + 4) (c := tc) hlt
  have ho := d_s fs k
  have hok := g.ok fs[k] (List.getElem_mem hlt)
  have ho2 : off fs (k + 1) ≤ 12 + (body fs).length := d_s fs (k + 1)
  rw [d_c fs k hlt] at ho2
  have eyk : y.2[k].xs = fs[k] := by
    have := congrArg (fun l : List (List Int) => l[k]?) hy
    simpa [a_r, List.getElem?_eq_getElem hlt, List.getElem?_eq_getElem hyk] using this
  have ey : a_d y.2[k] = (fs[k].length : Int) := by rw [← eyk]; rfl
  have eo : t2.1.2.xs[k]? = some ⟨fs[k], some fs[k].length⟩ := by rw [ht2]; simp [b_X, List.getElem?_eq_getElem hlt]
  have hpad := off_4 fs k
  have hpe : pad (off fs k + fs[k].length) = off fs k + pad fs[k].length := by unfold pad; omega
  have zer : ∀ j, off fs k + fs[k].length ≤ j → j < pad (off fs k + fs[k].length) → (b_m num fs)[j]? = some 0 := by
    intro j h1 h2
    obtain ⟨A, C, eB, hA⟩ := c_0 num fs k hlt
    rw [hpe] at h2
    rw [eB, List.getElem?_append_right (by omega), List.getElem?_append_right (by omega), List.getElem?_append_left (by rw [List.length_replicate]; omega), List.getElem?_replicate, if_pos (by omega)]
  have e5 : p3_l5 (n' + 4) (⟨b_m num fs, tc⟩, te) (n' + 4) ((off fs k : Int) + (fs[k].length : Int)) = some (.inl ((off fs (k + 1) : Nat) : Int)) := by
    rw [d_c fs k hlt, ← hpe, show ((off fs k : Int) + (fs[k].length : Int)) = ((off fs k + fs[k].length : Nat) : Int) by simp]
    exact p3_l5_eq (n' + 4) n' _ (⟨b_m num fs, tc⟩, te) (by omega) zer
  have j1 : ckI .i64 (((12 + (body fs).length : Nat) : Int) + 8) = some (((12 + (body fs).length : Nat) : Int) + 8) := a_o (by omega)
  have j2 : ckI .i64 (4 * (k : Int)) = some (4 * (k : Int)) := a_o (by omega)
  have j3 : ckI .i64 (((12 + (body fs).length : Nat) : Int) + 8 + 4 * (k : Int)) = some ((12 + (body fs).length + (8 + 4 * k) : Nat) : Int) := (a_o (by omega)).trans (congrArg some (by omega))
  have j4 : ckI .i64 (((12 + (body fs).length : Nat) : Int) + 10) = some (((12 + (body fs).length : Nat) : Int) + 10) := a_o (by omega)
  have j5 : ckI .i64 (((12 + (body fs).length : Nat) : Int) + 10 + 4 * (k : Int)) = some ((12 + (body fs).length + (8 + 4 * k + 2) : Nat) : Int) := (a_o (by omega)).trans (congrArg some (by omega))
  have j6 : ckI .i64 ((off fs k : Int) + (fs[k].length : Int)) = some ((off fs k : Int) + (fs[k].length : Int)) := a_o (by omega)
  have j7 : ckI .i64 ((k : Int) + 1) = some ((k + 1 : Nat) : Int) := a_o (by omega)
  have j8 : idx (⟨y.2, .none⟩ : Sl (Sl Int)).xs (k : Int) = some y.2[k] := by rw [a_I]; exact List.getElem?_eq_getElem hyk
  have j9 : idx t2.1.2.xs (k : Int) = some ⟨fs[k], some fs[k].length⟩ := by rw [a_I]; exact eo
  have j0 : decide ((k : Int) < a_d (⟨y.2, .none⟩ : Sl (Sl Int))) = true := by simp [a_d, hyl]; omega
  have jc : d_Y (⟨fs[k], some fs[k].length⟩ : Sl Int) = some (fs[k].length : Int) := rfl
  rw [p3_l4]
  rw [if_pos j0, j1, Option.bind_some, j2, Option.bind_some, j3, Option.bind_some, r1, Option.bind_some, if_pos (by simp), j4, Option.bind_some, Option.bind_some, j5, Option.bind_some, r2, Option.bind_some]
  rw [j8, Option.bind_some, ey, Option.bind_some, if_pos (by simp), j9, Option.bind_some, jc, Option.bind_some, Option.bind_some, ey, Option.bind_some, if_neg (by simp), Option.bind_some, ey, j6, Option.bind_some, e5, Option.bind_some]
  rw [lrK_inl, j7, Option.bind_some]
theorem p3_l4_eq (g : Good num fs) (n' : Nat) (y : List Int × List (Sl Int)) (hy : a_r y.2 = fs) (tc : Option Nat) (te : Int) (t2 : (Int × Sl (Sl Int)) × Int) (ht2 : t2.1.2.xs = b_X fs) : ∀ (m k : Nat), fs.length < k + m → k ≤ fs.length →
    p3_l4 (n' + 4) y (⟨b_m num fs, tc⟩, te) t2 ((12 + (body fs).length : Nat) : Int) m k (off fs k : Int) = some (.inl ((12 + (body fs).length : Nat) : Int))
  | 0, k, h, hk => by omega
  | m + 1, k, h, hk => by
    by_cases hlt : k < fs.length
    · rw [p3_l4_step g n' y hy tc te t2 ht2 m k hlt]
      exact p3_l4_eq g n' y hy tc te t2 ht2 m (k + 1) (by omega) (by omega)
    · have hyl : y.2.length = fs.length := by rw [← hy]; simp [a_r]
      rw [p3_l4, if_neg (by simp [a_d, hyl]; omega)]
      have : k = fs.length := by omega
      rw [this, off_end]
end
theorem p8_eq (n : Nat) (hn : 100 < n) : p8 n = some true := by
  unfold p8
  have e1 := p11_eq n 7 ⟨[(⟨[1, 2, 3], some 3⟩ : Sl Int), ⟨[9], some 1⟩], some 2⟩ (by omega) (by simp; omega) (by omega) (by simp)
  have e2 : p10 n ⟨[3, 1], some 2⟩ = some (a_K [[1, 2, 3], [9]]) := p10_eq n [[1, 2, 3], [9]] (some 2) (by simp; omega) (by simp)
  have h2 : a_K (a_r [(⟨[1, 2, 3], some 3⟩ : Sl Int), ⟨[9], some 1⟩]) = (40, 0) := by decide
  have h3 : a_K [[1, 2, 3], [9]] = (40, 0) := by decide
  rw [e1, h2, if_pos rfl, Option.bind_some, e2, h3, Option.bind_some]
  rfl
theorem p3_l1_eq (n : Nat) (x : Int × Sl (Sl Int)) (hn : 100 < n) (hL : x.2.xs.length ≤ 1000000) : ∀ (m k : Nat), x.2.xs.length < k + m → k ≤ x.2.xs.length → p3_l1 n x m k = some (.inl ()) ∨ p3_l1 n x m k = some (.inr true)
  | 0, k, h, hk => by omega
  | m + 1, k, h, hk => by
    unfold p3_l1
    by_cases hlt : k < x.2.xs.length
    · rw [if_pos (by simp [a_d]; omega), a_I, List.getElem?_eq_getElem hlt, Option.bind_some]
      by_cases hb : a_d x.2.xs[k] > 1600
      · rw [if_pos (by simpa using hb), p8_eq n hn]
        exact .inr rfl
      · rw [if_neg (by simpa using hb), a_o (by omega), Option.bind_some, show ((k : Int) + 1) = ((k + 1 : Nat) : Int) by simp]
        exact p3_l1_eq n x hn hL m (k + 1) (by omega) (by omega)
    · rw [if_neg (by simp [a_d]; omega)]
      exact .inl rfl
theorem p3_l3_eq (n : Nat) (x : Int × Sl (Sl Int)) (hL : x.2.xs.length ≤ 1000000) : ∀ (m k : Nat) (a : List Int) (b : List (Sl Int)), x.2.xs.length < k + m → k ≤ x.2.xs.length → a.length ≤ 1000000 + k → b.length ≤ 1000000 + k →
    p3_l3 n x m k a b = some (a ++ a_P (a_r (x.2.xs.drop k)), b ++ x.2.xs.drop k)
  | 0, k, a, b, h, hk, _, _ => by omega
  | m + 1, k, a, b, h, hk, ha, hb => by
    unfold p3_l3
    by_cases hlt : k < x.2.xs.length
    · have ex := List.drop_eq_getElem_cons hlt
      rw [if_pos (by simp [a_d]; omega), a_I, List.getElem?_eq_getElem hlt, Option.bind_some, b_i (by simp; omega), Option.bind_some, Option.bind_some, b_i (by simp; omega), Option.bind_some, a_o (by omega), Option.bind_some,
        show ((k : Int) + 1) = ((k + 1 : Nat) : Int) by simp, p3_l3_eq n x hL m (k + 1) _ _ (by omega) (by omega) (by simp; omega) (by simp; omega), show a_r (x.2.xs.drop k) = x.2.xs[k].xs :: a_r (x.2.xs.drop (k + 1)) by rw [ex]; rfl, ex]
      simp [a_P, a_d]
    · rw [if_neg (by simp [a_d]; omega), List.drop_eq_nil_of_le (by omega)]
      simp [a_P, a_r]
theorem p3_l2_eq (n : Nat) (x : Int × Sl (Sl Int)) (c : Int) (hc : 0 ≤ c ∧ c ≤ 255) (hL : x.2.xs.length ≤ 70) (hn : 100 < n) : ∀ (m k : Nat) (b : List (Sl Int)), 4 < k + m → k ≤ 4 → b.length ≤ 70 * k →
    ∃ all : List (Sl Int), all.length ≤ 280 ∧ p3_l2 n x c m k (a_P (a_r b)) b = some (a_P (a_r all), all)
  | 0, k, b, h, hk, hb => by omega
  | m + 1, k, b, h, hk, hb => by
    unfold p3_l2
    rw [a_S (by omega) (by decide) (by simp; omega), Option.bind_some]
    by_cases hlt : (k : Int) ≤ c % 4
    · have e : p3_l3 n x n 0 (a_P (a_r b)) b = some (a_P (a_r b) ++ a_P (a_r (x.2.xs.drop 0)), b ++ x.2.xs.drop 0) := p3_l3_eq n x (by omega) n 0 _ _ (by omega) (by omega) (by simp [a_P, a_r]; omega) (by omega)
      rw [if_pos (by simpa using hlt), e, Option.bind_some, a_o (by omega), Option.bind_some, List.drop_zero, show a_P (a_r b) ++ a_P (a_r x.2.xs) = a_P (a_r (b ++ x.2.xs)) by simp [a_P, a_r], show ((k : Int) + 1) = ((k + 1 : Nat) : Int) by simp]
      exact p3_l2_eq n x c hc hL hn m (k + 1) _ (by omega) (by omega) (by simp; omega)
    · rw [if_neg (by simpa using hlt)]
      exact ⟨b, by omega, rfl⟩
theorem p3_ok (n : Nat) (x : Int × Sl (Sl Int)) (c : Int) (hx : 0 ≤ x.1 ∧ x.1 ≤ 65535) (hc : 0 ≤ c ∧ c ≤ 255) (hn : 1000 < n) : p3 n x c = some true := by
  unfold p3
  by_cases h70 : a_d x.2 > 70
  · rw [if_pos (by simpa using h70), p8_eq n (by omega)]
    rfl
  · have hL : x.2.xs.length ≤ 70 := by simp only [a_d] at h70; omega
    rw [if_neg (by simpa using h70)]
    rcases (show p3_l1 n x n 0 = some (.inl ()) ∨ p3_l1 n x n 0 = some (.inr true) from p3_l1_eq n x (by omega) (by omega) n 0 (by omega) (by omega)) with e | e
    · rw [e, Option.bind_some]
      simp only [lrK]
      obtain ⟨all, ha, e2⟩ := (show ∃ all : List (Sl Int), all.length ≤ 280 ∧ p3_l2 n x c n 0 [] [] = some (a_P (a_r all), all) from p3_l2_eq n x c hc hL (by omega) n 0 [] (by omega) (by omega) (by simp))
      have hrl : (a_r all).length = all.length := by simp [a_r]
      rw [e2, Option.bind_some, p9_eq n _ _ (by omega) (by omega) (by omega), Option.bind_some, p10_eq n _ _ (by omega) (by omega), Option.bind_some, p11_eq n x.1 ⟨all, .none⟩ hx (by simp only; omega) (by omega) (by simp only; omega), Option.bind_some]
      by_cases h0 : (a_K (a_r all)).2 = 0
      · have hr : okF (a_r all) ∧ ¬ ((a_r all).length > 64 ∨ a_J (a_r all) > 16384) ∧ a_K (a_r all) = ((a_J (a_r all) : Int), 0) := by
          unfold a_K at h0 ⊢
          split at h0
          · split at h0
            · cases h0
            · rename_i h1 h2
              exact ⟨h1, h2, by rw [if_pos h1, if_neg h2]⟩
          · cases h0
        obtain ⟨hok, hle, hres⟩ := hr
        have g : Good x.1 (a_r all) := ⟨hx, hok, by omega, by omega⟩
        have hb := g.body_le
        rw [if_pos h0, hres]
        simp only
        rw [if_pos (by simp), Option.bind_some, if_pos (by simp), Option.bind_some, if_pos (by simp), Option.bind_some, b_g, b_O, if_pos (by simp), show d_Y (⟨b_m x.1 (a_r all), some (a_J (a_r all))⟩ : Sl Int) = some ((a_J (a_r all) : Nat) : Int) from rfl, Option.bind_some, Option.bind_some, if_neg (by simp), if_neg (by simp)]
        rw [p12_eq g n _ (by omega), Option.bind_some]
        simp only
        have ho : (b_X (a_r all)).length = all.length := by simp [b_X, a_r]
        rw [if_pos (by simp), Option.bind_some, if_pos (by simp), p13_eq n _ _ (by simp [a_r, b_X]) (by simp only; omega) (by simp only; omega), Option.bind_some, Option.bind_some, if_pos (by simp), show d_Y (⟨b_X (a_r all), some (a_r all).length⟩ : Sl (Sl Int)) = some ((a_r all).length : Int) from rfl, Option.bind_some, b_g, ho, hrl, Option.bind_some, if_neg (by simp)]
        have h10 : p14 n ⟨b_m x.1 (a_r all), some (a_J (a_r all))⟩ 10 = some ((12 + (body (a_r all)).length : Nat) : Int) := (g.rd (n := n) (i := 10) (by omega) (by omega) (by rw [b_C _ _ _ (by omega)]; rfl) (by rw [b_C _ _ _ (by omega)]; rfl)).2
        have hT4 : p14 n ⟨b_m x.1 (a_r all), some (a_J (a_r all))⟩ ((12 + (body (a_r all)).length + 4 : Nat) : Int) = some ((12 + 4 * (a_r all).length : Nat) : Int) := (g.rd (n := n) (by omega) (by omega) (by rw [b_e]; rfl) (by rw [Nat.add_assoc (12 + (body (a_r all)).length), b_e]; rfl)).2
        have s1 : slI (⟨b_m x.1 (a_r all), some (a_J (a_r all))⟩ : Sl Int) 0 4 = some ⟨[78, 67, 77, 72], (some (a_J (a_r all))).map (· - 0)⟩ := c_f (A := []) (f := [78, 67, 77, 72]) (o := 0) (m := 4) rfl rfl
        have s2 : slI (⟨b_m x.1 (a_r all), some (a_J (a_r all))⟩ : Sl Int) ((12 + (body (a_r all)).length : Nat) : Int) ((12 + (body (a_r all)).length + 4 : Nat) : Int) = some ⟨[78, 67, 77, 48], (some (a_J (a_r all))).map (· - (12 + (body (a_r all)).length))⟩ := by
          rw [c_O, ← List.append_assoc]
          exact c_f (A := hd x.1 (a_r all) ++ body (a_r all)) (f := [78, 67, 77, 48]) (by simp [hd]; omega) rfl
        rw [h10, Option.bind_some]
        have e4 : p3_l4 n (a_P (a_r all), all) (⟨b_m x.1 (a_r all), some (a_J (a_r all))⟩, 0) ((x.1, ⟨b_X (a_r all), some all.length⟩), 0) ((12 + (body (a_r all)).length : Nat) : Int) n 0 12 = some (.inl ((12 + (body (a_r all)).length : Nat) : Int)) :=
          by
            obtain ⟨n', rfl⟩ : ∃ n', n = n' + 4 := ⟨n - 4, by omega⟩
            exact p3_l4_eq g n' (a_P (a_r all), all) rfl (some (a_J (a_r all))) 0 ((x.1, ⟨b_X (a_r all), some all.length⟩), 0) rfl (n' + 4) 0 (by omega) (by omega)
        rw [e4, Option.bind_some]
        simp only
        have k2 : ckI .i64 (((12 + (body (a_r all)).length : Nat) : Int) + 4) = some ((12 + (body (a_r all)).length + 4 : Nat) : Int) := a_o (by omega)
        rw [if_pos (by simp), k2, Option.bind_some, hT4, Option.bind_some, b_g, a_o (by omega), Option.bind_some, a_o (by omega), Option.bind_some, Option.bind_some, if_pos (by simp [hrl]), s1, Option.bind_some, Option.bind_some, if_pos (by simp), Option.bind_some, s2, Option.bind_some, Option.bind_some, if_pos (by simp), p8_eq n (by omega), Option.bind_some]
        rfl
      · have h1 : (a_K (a_r all)).1 = 0 := by
          unfold a_K at h0 ⊢
          split
          · split
            · rfl
            · rename_i h1 h2
              rw [if_pos h1, if_neg h2] at h0
              exact absurd rfl h0
          · rfl
        rw [if_neg h0]
        simp only
        rw [if_pos (by simp), Option.bind_some, if_pos (by simp), Option.bind_some, if_pos (by simp), Option.bind_some, h1, if_pos (by simp [a_d]), show d_Y (⟨[], some 0⟩ : Sl Int) = some 0 from rfl, Option.bind_some, Option.bind_some, if_neg (by simp), if_pos (by simpa using h0), p8_eq n (by omega)]
        rfl
    · rw [e, Option.bind_some]
      rfl
theorem blkIn_of {w : World} {K : Nat → Prop} {v : Value} {x : Int × Sl (Sl Int)} (h : RepV (.st (.pair (.int .u16) (.sl (.sl (.int .u8))))) w K v x) : 0 ≤ x.1 ∧ x.1 ≤ 65535 := by
  obtain ⟨h1, _⟩ := (show InR .u16 x.1 ∧ _ from h.fine)
  exact inR_u16.1 h1
end Go.Proofs.Ytlgalcekkffhnaa
