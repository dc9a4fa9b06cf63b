/- NetworksPacker in plain words: what a packer does. -/
import Derived.Test.YtlgalcekkffhnaaPN9
import Derived.Test.YtlgalcekkffhnaaPk1
import Derived.Test.YtlgalcekkffhnaaLB2
set_option linter.unusedVariables false
set_option linter.unusedSimpArgs false
namespace Go.Proofs.Ytlgalcekkffhnaa
open Go.RowKit
theorem lrKK {α β γ : Type} (a : α) (g : β → Option γ) (f : α → Option γ) : lrK (.inl a) g f = f a := rfl
theorem lrKR {α β γ : Type} (a : β) (g : β → Option γ) (f : α → Option γ) : lrK (.inr a) g f = g a := rfl
theorem p13_l1_eqK (n : Nat) (x y : Sl (Sl Int)) (hr : a_r x.xs = a_r y.xs) (hL : x.xs.length ≤ 1000000) : ∀ (m k : Nat), x.xs.length < k + m → k ≤ x.xs.length → p13_l1 n x y m k = some (.inl ())
  | 0, k, h, hk => by omega
  | m + 1, k, h, hk => by
    have hl : x.xs.length = y.xs.length := by have := congrArg List.length hr; simpa [a_r] using this
    unfold p13_l1
    by_cases hlt : k < x.xs.length
    · have hy : k < y.xs.length := by omega
      have e : x.xs[k].xs = y.xs[k].xs := by
        have := congrArg (fun l : List (List Int) => l[k]?) hr
        simpa [a_r, List.getElem?_eq_getElem hlt, List.getElem?_eq_getElem hy] using this
      rw [if_pos (by simp [a_d]; omega), a_I, a_I, List.getElem?_eq_getElem hlt, List.getElem?_eq_getElem hy, Option.bind_some, Option.bind_some, if_neg (by simp [e]), a_o (by omega), Option.bind_some,
        show ((k : Int) + 1) = ((k + 1 : Nat) : Int) by simp, p13_l1_eqK n x y hr hL m (k + 1) (by omega) (by omega)]
    · rw [if_neg (by simp [a_d]; omega)]
theorem p13_eqK (n : Nat) (x y : Sl (Sl Int)) (hr : a_r x.xs = a_r y.xs) (hL : x.xs.length < n) (hL' : x.xs.length ≤ 1000000) : p13 n x y = some true := by
  have hl : x.xs.length = y.xs.length := by have := congrArg List.length hr; simpa [a_r] using this
  have e : p13_l1 n x y n 0 = some (.inl ()) := p13_l1_eqK n x y hr hL' n 0 (by omega) (by omega)
  unfold p13
  rw [if_neg (by simp [a_d, hl]), e, Option.bind_some]
  rfl
theorem livesK (n : Nat) (hn : 100 < n) : p8 n = some true := by
  unfold p8
  have e1 := p11_eq n 7 ⟨[(⟨[1, 2, 3], some 3⟩ : Sl Int), ⟨[9], some 1⟩], some 2⟩ (by omega) (by simp; omega) (by omega) (by simp)
  have e2 : p10 n ⟨[3, 1], some 2⟩ = some (a_K [[1, 2, 3], [9]]) := p10_eq n [[1, 2, 3], [9]] (some 2) (by simp; omega) (by simp)
  have h2 : a_K (a_r [(⟨[1, 2, 3], some 3⟩ : Sl Int), ⟨[9], some 1⟩]) = (40, 0) := by decide
  have h3 : a_K [[1, 2, 3], [9]] = (40, 0) := by decide
  rw [e1, h2, if_pos rfl, Option.bind_some, e2, h3, Option.bind_some]
  rfl
def fits (most : Int) (fs : List (List Int)) : Prop := okF fs ∧ fs.length ≤ 64 ∧ (a_J fs : Int) ≤ most
def bad (most : Int) (fs : List (List Int)) : Bool := (a_K fs).2 != 0 || decide ((a_K fs).1 > most)
theorem lenRes_code (fs : List (List Int)) : (a_K fs).2 = 0 ∨ (a_K fs).2 = 1 ∨ (a_K fs).2 = 3 := by
  unfold a_K
  split
  · split
    · exact .inr (.inr rfl)
    · exact .inl rfl
  · exact .inr (.inl rfl)
theorem bad_iff {most : Int} (hm : most ≤ 16384) (fs : List (List Int)) : bad most fs = false ↔ fits most fs := by
  unfold bad fits a_K
  by_cases h1 : okF fs
  · rw [if_pos h1]
    by_cases h2 : fs.length > 64 ∨ a_J fs > 16384
    · rw [if_pos h2]; simp [h1]; omega
    · rw [if_neg h2]; simp [h1]; omega
  · rw [if_neg h1]; simp [h1]
theorem fits.good {most num : Int} {fs : List (List Int)} (h : fits most fs) (hm : most ≤ 16384) (hn : 0 ≤ num ∧ num ≤ 65535) : Good num fs := ⟨hn, h.1, h.2.1, by have := h.2.2; omega⟩
theorem fits.len {most : Int} {fs : List (List Int)} (h : fits most fs) (hm : most ≤ 16384) : a_K fs = ((a_J fs : Int), 0) := by
  obtain ⟨h1, h2, h3⟩ := h
  unfold a_K
  rw [if_pos h1, if_neg (by omega)]
theorem raws_take (l : List (Sl Int)) (k : Nat) : a_r (l.take k) = (a_r l).take k := by simp [a_r]
theorem raws_drop (l : List (Sl Int)) (k : Nat) : a_r (l.drop k) = (a_r l).drop k := by simp [a_r]
theorem raws_len (l : List (Sl Int)) : (a_r l).length = l.length := by simp [a_r]
theorem raws_append (a b : List (Sl Int)) : a_r (a ++ b) = a_r a ++ a_r b := by simp [a_r]
theorem okF_take {fs : List (List Int)} (h : okF fs) (k : Nat) : okF (fs.take k) := fun f hf => h f (List.mem_of_mem_take hf)
theorem okF_drop {fs : List (List Int)} (h : okF fs) (k : Nat) : okF (fs.drop k) := fun f hf => h f (List.mem_of_mem_drop hf)
theorem slI_take {α : Type} (l : List α) (c : Option Nat) (k : Nat) (hk : k ≤ l.length) : slI (⟨l, c⟩ : Sl α) 0 (k : Int) = some ⟨l.take k, c.map (· - 0)⟩ := by
  unfold slI
  rw [if_pos ⟨by omega, by omega, by simpa using hk⟩]
  simp
theorem p19_l1_eq (n : Nat) (y : Int × Int) (pw : List (Sl Int)) (hm : y.1 ≤ 16384) (hL : pw.length ≤ 64) (hn : 100 < n) : ∀ (m k : Nat), pw.length < k + m → 1 ≤ k → k ≤ pw.length → fits y.1 (a_r (pw.take k)) →
    ∃ c : Nat, p19_l1 n y pw m k = some (c : Int) ∧ 1 ≤ c ∧ c ≤ pw.length ∧ fits y.1 (a_r (pw.take c)) ∧ (c < pw.length → bad y.1 (a_r (pw.take (c + 1))) = true)
  | 0, k, h, h1, hk, hf => by omega
  | m + 1, k, h, h1, hk, hf => by
    unfold p19_l1
    by_cases hlt : k < pw.length
    · have hl : (pw.take (k + 1)).length = k + 1 := by rw [List.length_take]; omega
      rw [if_pos (by simp [a_d]; omega), a_o (by omega), Option.bind_some, show ((k : Int) + 1) = ((k + 1 : Nat) : Int) by simp, slI_take pw .none (k + 1) (by omega), Option.bind_some,
        p21_eq n _ (by rw [hl]; omega) (by rw [hl]; omega), Option.bind_some, p10_eq n _ _ (by rw [raws_len, hl]; omega) (by rw [raws_len, hl]; omega), Option.bind_some, orS, Option.bind_some]
      by_cases hb : bad y.1 (a_r (pw.take (k + 1))) = true
      · refine ⟨k, ?_, h1, hk, hf, fun _ => hb⟩
        unfold bad at hb
        rw [if_pos hb]
      · have hb' : bad y.1 (a_r (pw.take (k + 1))) = false := by simpa using hb
        obtain ⟨c, e, r⟩ := p19_l1_eq n y pw hm hL hn m (k + 1) (by omega) (by omega) (by omega) ((bad_iff hm _).1 hb')
        refine ⟨c, ?_, r⟩
        unfold bad at hb
        rw [if_neg hb]
        exact e
    · refine ⟨k, ?_, h1, hk, hf, fun h => absurd h hlt⟩
      rw [if_neg (by simp [a_d]; omega)]
theorem sl3_drop {α : Type} (l : List α) (k : Nat) (hk : k ≤ l.length) : d_v (⟨l, .none⟩ : Sl α) (k : Int) (l.length : Int) (l.length : Int) = some ⟨l.drop k, some (l.length - k)⟩ := by
  unfold d_v
  rw [if_pos (by simp; omega)]
  simp
def okW (most : Int) (fs : List (List Int)) : Prop := ∀ f ∈ fs, fits most [f]
theorem okW.ok {most : Int} {fs : List (List Int)} (h : okW most fs) : okF fs := fun f hf => (h f hf).1 f (by simp)
theorem p19_eq (n : Nat) (y : Int × Int) (pw : List (Sl Int)) (hm : y.1 ≤ 16384) (hy : 0 ≤ y.2 ∧ y.2 ≤ 65535) (hL : pw.length ≤ 64) (hn : 100 < n) (hW : okW y.1 (a_r pw)) (h0 : pw ≠ []) :
    ∃ c : Nat, 1 ≤ c ∧ c ≤ pw.length ∧ fits y.1 (a_r (pw.take c)) ∧ (c < pw.length → bad y.1 (a_r (pw.take (c + 1))) = true) ∧
      p19 n y pw = some (⟨b_m y.2 (a_r (pw.take c)), some (a_J (a_r (pw.take c)))⟩, true, (y.1, IntKind.wrap .u16 (y.2 + 1)), pw.drop c) := by
  have hp : 0 < pw.length := List.length_pos_iff.2 h0
  have hf1 : fits y.1 (a_r (pw.take 1)) := by
    obtain ⟨f, l, rfl⟩ := List.exists_cons_of_ne_nil h0
    exact hW f.xs (by simp [a_r])
  obtain ⟨c, e, h1, h2, h3, h4⟩ := (show ∃ c : Nat, p19_l1 n y pw n 1 = some (c : Int) ∧ _ from p19_l1_eq n y pw hm hL hn n 1 (by omega) (by omega) (by omega) hf1)
  refine ⟨c, h1, h2, h3, h4, ?_⟩
  have hl : (pw.take c).length = c := by rw [List.length_take]; omega
  unfold p19
  rw [if_neg (by simp [a_d]; omega), e, Option.bind_some, show d_v (⟨pw, .none⟩ : Sl (Sl Int)) 0 (c : Int) (c : Int) = some ⟨pw.take c, some c⟩ by unfold d_v; rw [if_pos (by simp; omega)]; simp, Option.bind_some, p11_eq n y.2 _ hy (by simp only; omega) (by omega) (by simp only; omega), Option.bind_some, if_pos (by rw [h3.len hm]),
    show a_d (⟨pw, .none⟩ : Sl (Sl Int)) = (pw.length : Int) from rfl, sl3_drop pw c h2, Option.bind_some]
theorem sizes_one (s : Sl Int) : ([a_d s] : List Int) = a_P [s.xs] := rfl
theorem p17_eq (n : Nat) (most num : Int) (pw : List (Sl Int)) (x : Sl Int) (h1 : most ≠ 0) (hx : x.xs.length ≤ 1600) (hn : 100 < n) (hL : pw.length ≤ 64) :
    p17 n (most, num) pw x = some (if bad most [x.xs] = true then (1, (most, num), pw) else if pw.length = 64 then (9, (most, num), pw) else (0, (most, num), pw ++ [⟨x.xs, b_f (some 0) x.xs.length⟩])) := by
  unfold p17
  rw [if_neg (by simpa using h1), sizes_one, p10_eq n _ _ (by simp; omega) (by simp), Option.bind_some, orS, Option.bind_some]
  by_cases hb : bad most [x.xs] = true
  · rw [if_pos hb]
    unfold bad at hb
    rw [if_pos hb]
  · rw [if_neg hb]
    unfold bad at hb
    rw [if_neg hb]
    by_cases h64 : pw.length = 64
    · rw [if_pos (by simp [a_d]; omega), if_pos h64]
    · rw [if_neg (by simp [a_d]; omega), if_neg h64, p26_eq n _ (by omega), Option.bind_some]
      unfold appO
      rw [if_pos ⟨by simp, by simp; omega⟩]
      rfl
end Go.Proofs.Ytlgalcekkffhnaa
