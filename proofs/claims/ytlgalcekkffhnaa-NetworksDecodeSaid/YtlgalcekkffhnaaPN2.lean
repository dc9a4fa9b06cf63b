/- NetworksBack in plain words, second part: the length, and what is written. -/
import Derived.Test.YtlgalcekkffhnaaPN1
set_option linter.unusedVariables false
set_option linter.unusedSimpArgs false
namespace Go.Proofs.Ytlgalcekkffhnaa
open Go.RowKit

def pad (k : Nat) : Nat := (k + 3) / 4 * 4
def body : List (List Int) → List Int
  | [] => []
  | f :: fs => f ++ (List.replicate (pad f.length - f.length) 0 ++ body fs)
def twoI (x : Int) : List Int := [x % 256, x / 256]
def ents : Nat → List (List Int) → List Int
  | _, [] => []
  | off, f :: fs => twoI off ++ (twoI f.length ++ ents (off + pad f.length) fs)
def okF (fs : List (List Int)) : Prop := ∀ f ∈ fs, 1 ≤ f.length ∧ f.length ≤ 1514
instance (fs : List (List Int)) : Decidable (okF fs) := inferInstanceAs (Decidable (∀ f ∈ fs, 1 ≤ f.length ∧ f.length ≤ 1514))
def total (fs : List (List Int)) : Nat := 24 + 4 * fs.length + (body fs).length
def lenRes (fs : List (List Int)) : Int × Int := if okF fs then (if fs.length > 64 ∨ total fs > 16384 then (0, 3) else ((total fs : Int), 0)) else (0, 1)
def sizes (fs : List (List Int)) : List Int := fs.map fun f => (f.length : Int)
theorem body_len_cons (f : List Int) (fs : List (List Int)) : (body (f :: fs)).length = pad f.length + (body fs).length := by
  simp only [body, List.length_append, List.length_replicate, pad]
  omega
theorem okF_cons {f : List Int} {fs : List (List Int)} : okF (f :: fs) ↔ (1 ≤ f.length ∧ f.length ≤ 1514) ∧ okF fs := by
  simp [okF]
theorem body_4 : ∀ fs : List (List Int), (body fs).length % 4 = 0
  | [] => rfl
  | f :: fs => by have := body_4 fs; rw [body_len_cons]; unfold pad; omega
/-- With the limit that Length puts on the way. -/
def cf : Nat → List (List Int) → Nat
  | a, [] => a
  | a, f :: fs => cf (pad (min a 16384 + f.length)) fs
theorem cf_small : ∀ (fs : List (List Int)) (a : Nat), a % 4 = 0 → a + (body fs).length ≤ 16384 → cf a fs = a + (body fs).length
  | [], a, _, _ => rfl
  | f :: fs, a, h, hs => by
    rw [body_len_cons] at hs ⊢
    unfold cf
    have e : pad (min a 16384 + f.length) = a + pad f.length := by unfold pad at *; omega
    rw [e, cf_small fs _ (by unfold pad; omega) (by omega)]
    omega
theorem cf_big : ∀ (fs : List (List Int)) (a : Nat), a % 4 = 0 → okF fs → 16384 < a + (body fs).length → 16384 < cf a fs
  | [], a, _, _, hs => by simpa [cf, body] using hs
  | f :: fs, a, h, hok, hs => by
    rw [body_len_cons] at hs
    obtain ⟨hf, hok⟩ := okF_cons.1 hok
    unfold cf
    refine cf_big fs _ (by unfold pad; omega) hok ?_
    unfold pad at *
    omega
theorem cf_le : ∀ (fs : List (List Int)) (a : Nat), okF fs → a ≤ 20000 → cf a fs ≤ 20000
  | [], a, _, h => h
  | f :: fs, a, hok, h => by
    obtain ⟨hf, hok⟩ := okF_cons.1 hok
    unfold cf
    refine cf_le fs _ hok ?_
    unfold pad
    omega
theorem sizes_get (fs : List (List Int)) (k : Nat) (h : k < fs.length) : (sizes fs)[k]? = some (fs[k].length : Int) := by
  simp [sizes, List.getElem?_eq_getElem h]
theorem p10_l1_eq (n : Nat) (fs : List (List Int)) (c : Option Nat) (hL : fs.length ≤ 1000000) : ∀ (m k a : Nat), fs.length < k + m → k ≤ fs.length → a ≤ 20000 →
    p10_l1 n ⟨sizes fs, c⟩ m k a = some (if okF (fs.drop k) then .inl ((cf a (fs.drop k) : Nat) : Int) else .inr (0, 1))
  | 0, k, a, h, hk, _ => by omega
  | m + 1, k, a, h, hk, ha => by
    unfold p10_l1
    by_cases hlt : k < fs.length
    · have ex := List.drop_eq_getElem_cons hlt
      have hl : (sizes fs).length = fs.length := by simp [sizes]
      rw [if_pos (by simp [lenI, hl]; omega), idx_nat, sizes_get fs k hlt, Option.bind_some, orS, Option.bind_some, ex]
      by_cases hf : 1 ≤ fs[k].length ∧ fs[k].length ≤ 1514
      · rw [if_neg (by simp; omega)]
        have e1 : (if (16384 : Int) < (a : Int) then (16384 : Int) else (a : Int)) = ((min a 16384 : Nat) : Int) := by split <;> omega
        rw [e1, ck_i64 (by omega), Option.bind_some, p20_eq n (by omega), Option.bind_some, ck_i64 (by omega), Option.bind_some]
        have e2 : ((min a 16384 : Nat) : Int) + (fs[k].length : Int) + 3 = ((min a 16384 + fs[k].length + 3 : Nat) : Int) := by omega
        have e3 : (((min a 16384 : Nat) : Int) + (fs[k].length : Int) + 3) / 4 * 4 = ((pad (min a 16384 + fs[k].length) : Nat) : Int) := by rw [e2]; unfold pad; omega
        rw [e3, show ((k : Int) + 1) = ((k + 1 : Nat) : Int) by simp, p10_l1_eq n fs c hL m (k + 1) _ (by omega) (by omega) (by unfold pad; omega)]
        by_cases h2 : okF (fs.drop (k + 1))
        · rw [if_pos h2, if_pos (okF_cons.2 ⟨hf, h2⟩)]; rfl
        · rw [if_neg h2, if_neg (fun h => h2 (okF_cons.1 h).2)]
      · rw [if_pos (by simp; omega), if_neg (fun h => hf (okF_cons.1 h).1)]
    · have hl : (sizes fs).length = fs.length := by simp [sizes]
      rw [if_neg (by simp [lenI, hl]; omega), List.drop_eq_nil_of_le (by omega)]
      rfl
theorem p10_eq (n : Nat) (fs : List (List Int)) (c : Option Nat) (hL : fs.length < n) (hL' : fs.length ≤ 1000000) : p10 n ⟨sizes fs, c⟩ = some (lenRes fs) := by
  unfold p10
  have hl : (sizes fs).length = fs.length := by simp [sizes]
  have e : p10_l1 n ⟨sizes fs, c⟩ n 0 12 = some (if okF (fs.drop 0) then .inl ((cf 12 (fs.drop 0) : Nat) : Int) else .inr (0, 1)) := p10_l1_eq n fs c hL' n 0 12 (by omega) (by omega) (by omega)
  rw [List.drop_zero] at e
  rw [e, Option.bind_some]
  unfold lenRes
  by_cases hok : okF fs
  · rw [if_pos hok, if_pos hok]
    have hle := cf_le fs 12 hok (by omega)
    simp only [lrK]
    rw [ck_i64 (by simp only [lenI, hl]; omega), Option.bind_some, ck_i64 (by simp only [lenI, hl]; omega), Option.bind_some, ck_i64 (by simp only [lenI, hl]; omega), Option.bind_some, orS, Option.bind_some]
    simp only [lenI, hl]
    by_cases hs : 12 + (body fs).length ≤ 16384
    · have e2 := cf_small fs 12 (by omega) hs
      rw [e2]
      by_cases hc : fs.length > 64 ∨ total fs > 16384
      · rw [if_pos (by simp only [Bool.or_eq_true, decide_eq_true_eq]; unfold total at hc; omega), if_pos hc]
      · rw [if_neg (by simp only [Bool.or_eq_true, decide_eq_true_eq]; unfold total at hc; omega), if_neg hc]
        unfold total
        congr 2
        omega
    · have e2 := cf_big fs 12 (by omega) hok (by omega)
      rw [if_pos (by simp only [Bool.or_eq_true, decide_eq_true_eq]; omega), if_pos (.inr (by unfold total; omega))]
  · rw [if_neg hok, if_neg hok]
    rfl
theorem p9_l2_eq (n m : Nat) (c : Nat) (hc : c ≤ 1000000000) : p9_l2 n (m + 4) c = some ((pad c : Nat) : Int) := by
  have step : ∀ (m c : Nat), c ≤ 2000000000 → p9_l2 n (m + 1) c = if c % 4 = 0 then some (c : Int) else p9_l2 n m ((c + 1 : Nat) : Int) := by
    intro m c hc
    rw [p9_l2, remI_ok (by omega) (by decide) (by simp; omega), Option.bind_some]
    by_cases h : c % 4 = 0
    · rw [if_neg (by simp; omega), if_pos h]
    · rw [if_pos (by simp; omega), if_neg h, ck_i64 (by omega), Option.bind_some]
      rfl
  rw [step _ _ (by omega)]
  unfold pad
  split
  · congr 1; omega
  · rw [step _ _ (by omega)]
    split
    · congr 1; omega
    · rw [step _ _ (by omega)]
      split
      · congr 1; omega
      · rw [step _ _ (by omega), if_pos (by omega)]
        congr 1; omega
theorem p9_l1_eq (n : Nat) (fs : List (List Int)) (c : Option Nat) (hL : fs.length ≤ 1000) (hn : 4 ≤ n) : ∀ (m k a : Nat), fs.length < k + m → k ≤ fs.length → a % 4 = 0 → a ≤ 24 + 2000 * k →
    p9_l1 n ⟨sizes fs, c⟩ m k a = some (if okF (fs.drop k) then .inl ((a + 4 * (fs.drop k).length + (body (fs.drop k)).length : Nat) : Int) else .inr (0, 1))
  | 0, k, a, h, hk, _, _ => by omega
  | m + 1, k, a, h, hk, h4, ha => by
    unfold p9_l1
    have hl : (sizes fs).length = fs.length := by simp [sizes]
    by_cases hlt : k < fs.length
    · have ex := List.drop_eq_getElem_cons hlt
      rw [if_pos (by simp [lenI, hl]; omega), idx_nat, sizes_get fs k hlt, Option.bind_some, Option.bind_some, orS, Option.bind_some, ex]
      by_cases hf : 1 ≤ fs[k].length ∧ fs[k].length ≤ 1514
      · rw [if_neg (by simp; omega), ck_i64 (by omega), Option.bind_some, Option.bind_some, ck_i64 (by omega), Option.bind_some]
        obtain ⟨n', rfl⟩ : ∃ n', n = n' + 4 := ⟨n - 4, by omega⟩
        rw [show (a : Int) + 4 + (fs[k].length : Int) = ((a + 4 + fs[k].length : Nat) : Int) by omega, p9_l2_eq _ _ _ (by omega), Option.bind_some, ck_i64 (by omega), Option.bind_some, show ((k : Int) + 1) = ((k + 1 : Nat) : Int) by simp]
        have e3 : pad (a + 4 + fs[k].length) = a + 4 + pad fs[k].length := by unfold pad; omega
        rw [e3, p9_l1_eq _ fs c hL hn m (k + 1) _ (by omega) (by omega) (by unfold pad; omega) (by unfold pad; omega), body_len_cons, List.length_cons]
        by_cases h2 : okF (fs.drop (k + 1))
        · rw [if_pos h2, if_pos (okF_cons.2 ⟨hf, h2⟩)]; congr 3; omega
        · rw [if_neg h2, if_neg (fun h => h2 (okF_cons.1 h).2)]
      · rw [if_pos (by simp; omega), if_neg (fun h => hf (okF_cons.1 h).1)]
    · rw [if_neg (by simp [lenI, hl]; omega), List.drop_eq_nil_of_le (by omega)]
      rfl
theorem p9_eq (n : Nat) (fs : List (List Int)) (c : Option Nat) (hL : fs.length < n) (hn : 4 ≤ n) (hL' : fs.length ≤ 1000) : p9 n ⟨sizes fs, c⟩ = some (lenRes fs) := by
  unfold p9
  have hl : (sizes fs).length = fs.length := by simp [sizes]
  have e : p9_l1 n ⟨sizes fs, c⟩ n 0 24 = some (if okF (fs.drop 0) then .inl ((24 + 4 * (fs.drop 0).length + (body (fs.drop 0)).length : Nat) : Int) else .inr (0, 1)) := p9_l1_eq n fs c hL' hn n 0 24 (by omega) (by omega) (by omega) (by omega)
  rw [List.drop_zero] at e
  rw [e, Option.bind_some]
  unfold lenRes
  by_cases hok : okF fs
  · rw [if_pos hok, if_pos hok]
    simp only [lrK]
    rw [orS, Option.bind_some]
    simp only [lenI, hl]
    by_cases hc : fs.length > 64 ∨ total fs > 16384
    · rw [if_pos (by simp only [Bool.or_eq_true, decide_eq_true_eq]; unfold total at hc; omega), if_pos hc]
    · rw [if_neg (by simp only [Bool.or_eq_true, decide_eq_true_eq]; unfold total at hc; omega), if_neg hc]
      rfl
  · rw [if_neg hok, if_neg hok]
    rfl
/-! ### Encode -/
def raws (l : List (Sl Int)) : List (List Int) := l.map Sl.xs
theorem p21_l1_eq (n : Nat) (x : Sl (Sl Int)) (hL : x.xs.length ≤ 1000000) : ∀ (m k : Nat) (acc : List Int), x.xs.length < k + m → k ≤ x.xs.length → acc.length = k → p21_l1 n x m k acc = some (acc ++ sizes (raws (x.xs.drop k)))
  | 0, k, acc, h, hk, _ => by omega
  | m + 1, k, acc, h, hk, ha => by
    unfold p21_l1
    by_cases hlt : k < x.xs.length
    · have ex := List.drop_eq_getElem_cons hlt
      rw [if_pos (by simp [lenI]; omega), idx_nat, List.getElem?_eq_getElem hlt, Option.bind_some, appI_ok (by simp; omega), Option.bind_some, ck_i64 (by omega), Option.bind_some,
        show ((k : Int) + 1) = ((k + 1 : Nat) : Int) by simp, p21_l1_eq n x hL m (k + 1) _ (by omega) (by omega) (by simp [ha]), show raws (x.xs.drop k) = x.xs[k].xs :: raws (x.xs.drop (k + 1)) by rw [ex]; rfl]
      simp [sizes, lenI]
    · rw [if_neg (by simp [lenI]; omega), List.drop_eq_nil_of_le (by omega)]
      simp [sizes, raws]
theorem p21_eq (n : Nat) (x : Sl (Sl Int)) (hL : x.xs.length < n) (hL' : x.xs.length ≤ 1000000) : p21 n x = some ⟨sizes (raws x.xs), .none⟩ := by
  unfold p21
  have e : p21_l1 n x n 0 [] = some ([] ++ sizes (raws (x.xs.drop 0))) := p21_l1_eq n x hL' n 0 [] (by omega) (by omega) rfl
  rw [List.drop_zero, List.nil_append] at e
  rw [e, Option.bind_some]
theorem p11_l1_eq (n num : Nat) (x : Int × Sl (Sl Int)) (hL : x.2.xs.length ≤ 1000) (hn : 4 ≤ n) : ∀ (m k : Nat) (en out : List Int), x.2.xs.length < k + m → k ≤ x.2.xs.length → out.length % 4 = 0 → okF (raws (x.2.xs.drop k)) →
    out.length + (body (raws (x.2.xs.drop k))).length ≤ 20000 → en.length ≤ 100 + 4 * k → p11_l1 n x m k en out = some (out ++ body (raws (x.2.xs.drop k)), en ++ ents out.length (raws (x.2.xs.drop k)))
  | 0, k, en, out, h, hk, _, _, _, _ => by omega
  | m + 1, k, en, out, h, hk, h4, hok, hs, he => by
    unfold p11_l1
    by_cases hlt : k < x.2.xs.length
    · have ex := List.drop_eq_getElem_cons hlt
      have ex2 : raws (x.2.xs.drop k) = x.2.xs[k].xs :: raws (x.2.xs.drop (k + 1)) := by rw [ex]; rfl
      rw [ex2] at hok hs ⊢
      obtain ⟨hf, hok⟩ := okF_cons.1 hok
      rw [body_len_cons] at hs
      have hp : pad x.2.xs[k].xs.length ≤ 1520 ∧ x.2.xs[k].xs.length ≤ pad x.2.xs[k].xs.length := by unfold pad; omega
      rw [if_pos (by simp [lenI]; omega), idx_nat, List.getElem?_eq_getElem hlt, Option.bind_some, len_eq, p23_eq n (by omega), Option.bind_some, p23_eq n (by simp only [lenI]; omega), Option.bind_some]
      rw [p22_eq n _ (by simp; omega) (by simp) (by simp; omega), Option.bind_some, appI_ok (by omega), Option.bind_some, len_eq, p20_eq n (by rw [List.length_append]; omega), Option.bind_some, ck_i64 (by rw [List.length_append]; omega), Option.bind_some]
      have e1 : ((out ++ x.2.xs[k].xs).length + 3 : Int) / 4 * 4 - ((out ++ x.2.xs[k].xs).length : Int) = ((pad x.2.xs[k].xs.length - x.2.xs[k].xs.length : Nat) : Int) := by
        rw [List.length_append]
        unfold pad
        omega
      rw [e1]
      have e2 : appZ (out ++ x.2.xs[k].xs) ((pad x.2.xs[k].xs.length - x.2.xs[k].xs.length : Nat) : Int) 0 = some (out ++ x.2.xs[k].xs ++ List.replicate (pad x.2.xs[k].xs.length - x.2.xs[k].xs.length) 0) := by
        unfold appZ
        rw [if_pos ⟨by omega, by rw [List.length_append]; omega⟩]
        rfl
      rw [e2, Option.bind_some, ck_i64 (by omega), Option.bind_some, show ((k : Int) + 1) = ((k + 1 : Nat) : Int) by simp]
      have e3 : (out ++ x.2.xs[k].xs ++ List.replicate (pad x.2.xs[k].xs.length - x.2.xs[k].xs.length) (0 : Int)).length = out.length + pad x.2.xs[k].xs.length := by
        simp only [List.length_append, List.length_replicate]
        omega
      rw [p11_l1_eq n num x hL hn m (k + 1) _ _ (by omega) (by omega) (by rw [e3]; unfold pad; omega) hok (by rw [e3]; omega) (by simp; omega), e3]
      simp [body, ents, twoI, lenI]
    · rw [if_neg (by simp [lenI]; omega), List.drop_eq_nil_of_le (by omega)]
      simp [raws, body, ents]
def encB (num : Int) (fs : List (List Int)) : List Int :=
  [78, 67, 77, 72] ++ (twoI 12 ++ (twoI num ++ (twoI (total fs) ++ (twoI ((12 + (body fs).length : Nat) : Int) ++ (body fs ++ ([78, 67, 77, 48] ++ (twoI ((12 + 4 * fs.length : Nat) : Int) ++ (twoI 0 ++ (ents 12 fs ++ [0, 0, 0, 0])))))))))
theorem ents_len : ∀ (fs : List (List Int)) (a : Nat), (ents a fs).length = 4 * fs.length
  | [], _ => rfl
  | f :: fs, a => by simp only [ents, List.length_append, ents_len fs, List.length_cons, twoI, List.length_nil]; omega
theorem encB_len (num : Int) (fs : List (List Int)) : (encB num fs).length = total fs := by
  simp only [encB, List.length_append, ents_len, twoI, List.length_cons, List.length_nil, total]
  omega
theorem p11_eq (n : Nat) (num : Int) (x : Sl (Sl Int)) (hnum : 0 ≤ num ∧ num ≤ 65535) (hL : x.xs.length < n) (hn : 8 ≤ n) (hL' : x.xs.length ≤ 1000) :
    p11 n (num, x) = some (if (lenRes (raws x.xs)).2 = 0 then (⟨encB num (raws x.xs), some (total (raws x.xs))⟩, 0) else (⟨[], some 0⟩, (lenRes (raws x.xs)).2)) := by
  unfold p11
  have hl : (raws x.xs).length = x.xs.length := by simp [raws]
  simp only
  rw [p21_eq n x hL (by omega), Option.bind_some, p10_eq n _ _ (by omega) (by omega), Option.bind_some]
  by_cases h0 : (lenRes (raws x.xs)).2 = 0
  · rw [if_neg (by simp [h0]), if_pos h0]
    have hr : okF (raws x.xs) ∧ ¬ ((raws x.xs).length > 64 ∨ total (raws x.xs) > 16384) ∧ lenRes (raws x.xs) = ((total (raws x.xs) : Int), 0) := by
      unfold lenRes at h0 ⊢
      split at h0
      · split at h0
        · cases h0
        · rename_i h1 h2
          exact ⟨h1, h2, by rw [if_pos h1, if_neg h2]⟩
      · cases h0
    obtain ⟨hok, hle, hres⟩ := hr
    rw [hres]
    have ht : total (raws x.xs) ≤ 16384 := by omega
    have htd : total (raws x.xs) = 24 + 4 * (raws x.xs).length + (body (raws x.xs)).length := rfl
    have e1 : (total (raws x.xs) : Int) - 12 - 4 * (x.xs.length : Int) = ((12 + (body (raws x.xs)).length : Nat) : Int) := by omega
    simp only [lenI]
    rw [ck_i64 (by omega), Option.bind_some, ck_i64 (by omega), Option.bind_some, ck_i64 (by omega), Option.bind_some, p23_eq n (by omega), Option.bind_some, p23_eq n hnum, Option.bind_some, p23_eq n (by omega), Option.bind_some, e1, p23_eq n (by omega), Option.bind_some]
    rw [p22_eq n _ (by simp; omega) (by simp) (by simp), Option.bind_some, Option.bind_some, ck_i64 (by omega), Option.bind_some, p23_eq n (by omega), Option.bind_some, p23_eq n (by omega), Option.bind_some]
    rw [p22_eq n _ (by simp; omega) (by simp) (by simp), Option.bind_some]
    have e2 := p11_l1_eq n 0 (num, x) hL' (by omega) n 0 (cat [(⟨[78, 67, 77, 48], some 4⟩ : Sl Int), ⟨[(12 + 4 * (x.xs.length : Int)) % 256, (12 + 4 * (x.xs.length : Int)) / 256], some 2⟩, ⟨[0 % 256, 0 / 256], some 2⟩])
      (cat [(⟨[78, 67, 77, 72], some 4⟩ : Sl Int), ⟨[12 % 256, 12 / 256], some 2⟩, ⟨[num % 256, num / 256], some 2⟩, ⟨[(total (raws x.xs) : Int) % 256, (total (raws x.xs) : Int) / 256], some 2⟩, ⟨[((12 + (body (raws x.xs)).length : Nat) : Int) % 256, ((12 + (body (raws x.xs)).length : Nat) : Int) / 256], some 2⟩]) (by simp only; omega) (by simp) (by simp) (by rw [List.drop_zero]; exact hok) (by rw [List.drop_zero]; simp; omega) (by simp)
    rw [List.drop_zero] at e2
    rw [show ((0 : Nat) : Int) = 0 from rfl] at e2
    rw [e2, Option.bind_some, mkI_ok (by decide) (by decide) (by decide), Option.bind_some]
    have hen : (ents 12 (raws x.xs)).length = 4 * (raws x.xs).length := ents_len _ _
    rw [p22_eq n _ (by simp; omega) (by simp) (by simp [hen]; omega), Option.bind_some, p24_eq, Option.bind_some]
    have e3 : cat [(⟨cat [(⟨[78, 67, 77, 72], some 4⟩ : Sl Int), ⟨[12 % 256, 12 / 256], some 2⟩, ⟨[num % 256, num / 256], some 2⟩, ⟨[(total (raws x.xs) : Int) % 256, (total (raws x.xs) : Int) / 256], some 2⟩, ⟨[((12 + (body (raws x.xs)).length : Nat) : Int) % 256, ((12 + (body (raws x.xs)).length : Nat) : Int) / 256], some 2⟩] ++ body (raws x.xs), .none⟩ : Sl Int), ⟨cat [(⟨[78, 67, 77, 48], some 4⟩ : Sl Int), ⟨[(12 + 4 * (x.xs.length : Int)) % 256, (12 + 4 * (x.xs.length : Int)) / 256], some 2⟩, ⟨[0 % 256, 0 / 256], some 2⟩] ++ ents 12 (raws x.xs), .none⟩, ⟨List.replicate (Int.toNat 4) 0, some (Int.toNat 4)⟩] = encB num (raws x.xs) := by
      simp [encB, twoI, hl]
    have e4 : (encB num (raws x.xs)).length = total (raws x.xs) := encB_len _ _
    exact (congrArg (fun z : List Int => some ((⟨z, some z.length⟩ : Sl Int), (0 : Int))) e3).trans (by rw [e4])
  · rw [if_pos (by simpa using h0), if_neg h0]
end Go.Proofs.Ytlgalcekkffhnaa
