/- NetworksBack in plain words, third part: what is written is read again. -/
import Derived.Test.YtlgalcekkffhnaaPN2
set_option linter.unusedVariables false
set_option linter.unusedSimpArgs false
namespace Go.Proofs.Ytlgalcekkffhnaa
open Go.RowKit

def tl (fs : List (List Int)) : List Int :=
  78 :: 67 :: 77 :: 48 :: (((12 + 4 * fs.length : Nat) : Int) % 256) :: (((12 + 4 * fs.length : Nat) : Int) / 256) :: 0 :: 0 :: (ents 12 fs ++ [0, 0, 0, 0])
def hd (num : Int) (fs : List (List Int)) : List Int :=
  [78, 67, 77, 72, 12, 0, num % 256, num / 256, (total fs : Int) % 256, (total fs : Int) / 256, ((12 + (body fs).length : Nat) : Int) % 256, ((12 + (body fs).length : Nat) : Int) / 256]
theorem encB_eq (num : Int) (fs : List (List Int)) : encB num fs = hd num fs ++ (body fs ++ tl fs) := by
  simp [encB, hd, tl, twoI]
theorem encB_tl (num : Int) (fs : List (List Int)) (j : Nat) : (encB num fs)[12 + (body fs).length + j]? = (tl fs)[j]? := by
  rw [encB_eq, List.getElem?_append_right (by simp [hd]; omega), show 12 + (body fs).length + j - (hd num fs).length = (body fs).length + j by simp [hd]; omega, List.getElem?_append_right (by omega)]
  congr 1
  omega
theorem encB_hd (num : Int) (fs : List (List Int)) (j : Nat) (hj : j < 12) : (encB num fs)[j]? = (hd num fs)[j]? := by
  rw [encB_eq, List.getElem?_append_left (by simp [hd]; omega)]
theorem body_split : ∀ (fs : List (List Int)) (k : Nat), body fs = body (fs.take k) ++ body (fs.drop k)
  | [], k => by simp [body]
  | f :: fs, 0 => by simp [body]
  | f :: fs, k + 1 => by
    have := body_split fs k
    simp only [List.take_succ_cons, List.drop_succ_cons, body, List.append_assoc]
    rw [← this]
theorem ents_drop : ∀ (fs : List (List Int)) (a k : Nat), k ≤ fs.length → (ents a fs).drop (4 * k) = ents (a + (body (fs.take k)).length) (fs.drop k)
  | fs, a, 0, _ => by simp [body]
  | f :: fs, a, k + 1, h => by
    have := ents_drop fs (a + pad f.length) k (by simpa using h)
    rw [List.take_succ_cons, List.drop_succ_cons, body_len_cons, ← Nat.add_assoc, ← this]
    simp only [ents, twoI, List.cons_append, List.nil_append]
    rw [show 4 * (k + 1) = 4 * k + 4 by omega]
    rfl
def off (fs : List (List Int)) (k : Nat) : Nat := 12 + (body (fs.take k)).length
theorem off_succ (fs : List (List Int)) (k : Nat) (h : k < fs.length) : off fs (k + 1) = off fs k + pad fs[k].length := by
  have key : ∀ (fs : List (List Int)) (k : Nat) (h : k < fs.length), (body (fs.take (k + 1))).length = (body (fs.take k)).length + pad fs[k].length := by
    intro fs
    induction fs with
    | nil => intro k h; simp at h
    | cons f fs ih =>
      intro k h
      cases k with
      | zero => rw [List.take_succ_cons, body_len_cons]; simp [body]
      | succ k =>
        have := ih k (by simpa using h)
        rw [List.take_succ_cons, body_len_cons, this, List.take_succ_cons, body_len_cons]
        simp
        omega
  unfold off
  rw [key fs k h]
  omega
theorem off_end (fs : List (List Int)) : off fs fs.length = 12 + (body fs).length := by simp [off]
theorem off_le (fs : List (List Int)) (k : Nat) : off fs k ≤ 12 + (body fs).length := by
  unfold off
  have := congrArg List.length (body_split fs k)
  rw [List.length_append] at this
  omega
theorem off_4 (fs : List (List Int)) (k : Nat) : off fs k % 4 = 0 := by
  have := body_4 (fs.take k)
  unfold off
  omega
/-- The four bytes of an entry. -/
theorem tl_ent (fs : List (List Int)) (k : Nat) (h : k < fs.length) :
    (tl fs)[8 + 4 * k]? = some ((off fs k : Int) % 256) ∧ (tl fs)[8 + 4 * k + 1]? = some ((off fs k : Int) / 256) ∧ (tl fs)[8 + 4 * k + 2]? = some ((fs[k].length : Int) % 256) ∧ (tl fs)[8 + 4 * k + 3]? = some ((fs[k].length : Int) / 256) := by
  have e := ents_drop fs 12 k (by omega)
  have ex := List.drop_eq_getElem_cons h
  rw [ex] at e
  have hl := ents_len fs 12
  have get : ∀ j, j < 4 → (tl fs)[8 + 4 * k + j]? = ((ents 12 fs).drop (4 * k))[j]? := by
    intro j hj
    rw [List.getElem?_drop]
    unfold tl
    rw [show 8 + 4 * k + j = (4 * k + j) + 8 by omega]
    simp only [List.getElem?_cons_succ]
    rw [List.getElem?_append_left (by omega)]
  refine ⟨?_, ?_, ?_, ?_⟩
  · rw [show 8 + 4 * k = 8 + 4 * k + 0 from rfl, get 0 (by omega), e]; rfl
  · rw [get 1 (by omega), e]; rfl
  · rw [get 2 (by omega), e]; rfl
  · rw [get 3 (by omega), e]; rfl
theorem tl_end (fs : List (List Int)) : (tl fs)[8 + 4 * fs.length]? = some 0 ∧ (tl fs)[8 + 4 * fs.length + 1]? = some 0 ∧ (tl fs)[8 + 4 * fs.length + 2]? = some 0 ∧ (tl fs)[8 + 4 * fs.length + 3]? = some 0 := by
  have hl := ents_len fs 12
  have get : ∀ j, (tl fs)[8 + 4 * fs.length + j]? = [(0 : Int), 0, 0, 0][j]? := by
    intro j
    unfold tl
    rw [show 8 + 4 * fs.length + j = (4 * fs.length + j) + 8 by omega]
    simp only [List.getElem?_cons_succ]
    rw [List.getElem?_append_right (by omega)]
    congr 1
    omega
  exact ⟨get 0, get 1, get 2, get 3⟩
/-- A frame lies where its entry says, with zeros behind it. -/
theorem encB_frame (num : Int) (fs : List (List Int)) (k : Nat) (h : k < fs.length) : ∃ A C, encB num fs = A ++ (fs[k] ++ (List.replicate (pad fs[k].length - fs[k].length) 0 ++ C)) ∧ A.length = off fs k := by
  have ex := List.drop_eq_getElem_cons h
  have e := body_split fs k
  rw [ex] at e
  refine ⟨hd num fs ++ body (fs.take k), body (fs.drop (k + 1)) ++ tl fs, ?_, by simp [hd, off]; omega⟩
  rw [encB_eq, e]
  simp [body]
structure Good (num : Int) (fs : List (List Int)) : Prop where
  num : 0 ≤ num ∧ num ≤ 65535
  ok : okF fs
  few : fs.length ≤ 64
  small : total fs ≤ 16384
section
variable {num : Int} {fs : List (List Int)}
theorem Good.rd {n i : Nat} {c : Option Nat} (g : Good num fs) {x : Int} (hi : i < 100000) (h0 : 0 ≤ x ∧ x ≤ 65535) (h1 : (encB num fs)[i]? = some (x % 256)) (h2 : (encB num fs)[i + 1]? = some (x / 256)) : p25 n i ⟨encB num fs, c⟩ = some x ∧ p14 n ⟨encB num fs, c⟩ i = some x := by
  have e : x % 256 + 256 * (x / 256) = x := by omega
  exact ⟨by rw [p25_eq n i _ h1 h2 (by omega) (by omega) (by omega), e], by rw [p14_eq n i _ h1 h2 (by omega) (by omega) (by omega), e]⟩
theorem Good.body_le (g : Good num fs) : total fs = 24 + 4 * fs.length + (body fs).length ∧ (body fs).length ≤ 16360 := by
  have := g.small
  unfold total at *
  omega
theorem Good.ent {n k : Nat} {c : Option Nat} (g : Good num fs) (h : k < fs.length) :
    (p25 n ((12 + (body fs).length + (8 + 4 * k) : Nat) : Int) ⟨encB num fs, c⟩ = some (off fs k : Int) ∧ p14 n ⟨encB num fs, c⟩ ((12 + (body fs).length + (8 + 4 * k) : Nat) : Int) = some (off fs k : Int)) ∧
    (p25 n ((12 + (body fs).length + (8 + 4 * k + 2) : Nat) : Int) ⟨encB num fs, c⟩ = some (fs[k].length : Int) ∧ p14 n ⟨encB num fs, c⟩ ((12 + (body fs).length + (8 + 4 * k + 2) : Nat) : Int) = some (fs[k].length : Int)) := by
  obtain ⟨h1, h2, h3, h4⟩ := tl_ent fs k h
  have hb := g.body_le
  have hf := g.few
  have ho := off_le fs k
  have hk := g.ok fs[k] (List.getElem_mem h)
  refine ⟨g.rd (by omega) (by omega) (by rw [encB_tl]; exact h1) ?_, g.rd (by omega) (by omega) (by rw [encB_tl]; exact h3) ?_⟩
  · rw [Nat.add_assoc (12 + (body fs).length) (8 + 4 * k) 1, encB_tl]; exact h2
  · rw [Nat.add_assoc (12 + (body fs).length) (8 + 4 * k + 2) 1, encB_tl]; exact h4
theorem slice_at {A f C : List Int} {c : Option Nat} {o m : Nat} (hA : A.length = o) (hm : f.length = m) : slI (⟨A ++ (f ++ C), c⟩ : Sl Int) (o : Int) ((o + m : Nat) : Int) = some ⟨f, c.map (· - o)⟩ := by
  unfold slI
  rw [if_pos ⟨by omega, by omega, by simp; omega⟩]
  congr 2
  subst hA
  subst hm
  simp only [Int.toNat_natCast]
  rw [← List.append_assoc, show A.length + f.length = (A ++ f).length by simp, List.take_left]
  exact List.drop_left
def outs (fs : List (List Int)) : List (Sl Int) := fs.map fun f => ⟨f, some f.length⟩
theorem p12_l1_eq (g : Good num fs) (n : Nat) (c : Option Nat) : ∀ (m k : Nat) (acc : List (Sl Int)), fs.length < k + m → k ≤ fs.length → acc.length = k →
    p12_l1 n ⟨encB num fs, c⟩ ((12 + (body fs).length : Nat) : Int) ((12 + 4 * fs.length : Nat) : Int) m ((12 + (body fs).length + (8 + 4 * k) : Nat) : Int) acc = some (.inl (acc ++ outs (fs.drop k)))
  | 0, k, acc, h, hk, ha => by omega
  | m + 1, k, acc, h, hk, ha => by
    have hb := g.body_le
    have hfe := g.few
    have hsm := g.small
    unfold p12_l1
    rw [ck_i64 (by omega), Option.bind_some, ck_i64 (by omega), Option.bind_some]
    by_cases hlt : k < fs.length
    · have ex := List.drop_eq_getElem_cons hlt
      obtain ⟨⟨r1, _⟩, ⟨r2, _⟩⟩ := g.ent (n := n) (c := c) hlt
      have ho := off_le fs k
      have ho2 : off fs (k + 1) ≤ 12 + (body fs).length := off_le fs (k + 1)
      rw [off_succ fs k hlt] at ho2
      have h4 := off_4 fs k
      have hge : 12 ≤ off fs k := by unfold off; omega
      have hok := g.ok fs[k] (List.getElem_mem hlt)
      have hpad : fs[k].length ≤ pad fs[k].length := by unfold pad; omega
      obtain ⟨A, C, eB, hA⟩ := encB_frame num fs k hlt
      rw [if_pos (by simp; omega), r1, Option.bind_some, ck_i64 (by omega), Option.bind_some]
      rw [show (((12 + (body fs).length + (8 + 4 * k) : Nat) : Int) + 2) = ((12 + (body fs).length + (8 + 4 * k + 2) : Nat) : Int) by omega, r2, Option.bind_some]
      rw [if_neg (by simp; omega), Option.bind_some, if_neg (by decide), if_pos (by simp; omega), remI_ok (by omega) (by decide) (by simp; omega), Option.bind_some, Option.bind_some]
      rw [if_pos (by simp; omega), Option.bind_some, if_pos (by simp; omega), Option.bind_some, if_pos (by simp; omega), ck_i64 (by omega), Option.bind_some, Option.bind_some, len_eq, encB_len]
      rw [if_neg (by simp; omega), ck_i64 (by omega), Option.bind_some]
      rw [show ((off fs k : Int) + (fs[k].length : Int)) = ((off fs k + fs[k].length : Nat) : Int) by simp, eB, slice_at hA rfl, Option.bind_some, p26_eq n _ (by simp; omega), Option.bind_some, p24_eq, Option.bind_some, appI_ok (by simp; omega), Option.bind_some, Option.bind_some, ← eB]
      rw [show (((12 + (body fs).length + (8 + 4 * k) : Nat) : Int) + 4) = ((12 + (body fs).length + (8 + 4 * (k + 1)) : Nat) : Int) by omega, p12_l1_eq g n c m (k + 1) _ (by omega) (by omega) (by simp [ha]), show outs (fs.drop k) = ⟨fs[k], some fs[k].length⟩ :: outs (fs.drop (k + 1)) by rw [ex]; rfl, List.append_assoc]
      rfl
    · rw [if_neg (by simp; omega), List.drop_eq_nil_of_le (by omega)]
      simp [outs]
theorem p12_eq (g : Good num fs) (n : Nat) (c : Option Nat) (hn : 100 < n) : p12 n ⟨encB num fs, c⟩ = some ((num, ⟨outs fs, some fs.length⟩), 0) := by
  have hb := g.body_le
  have hfe := g.few
  have hsm := g.small
  have hnum := g.num
  have h10 : p25 n 10 ⟨encB num fs, c⟩ = some ((12 + (body fs).length : Nat) : Int) := (g.rd (n := n) (i := 10) (c := c) (by omega) (by omega) (by rw [encB_hd _ _ _ (by omega)]; rfl) (by rw [encB_hd _ _ _ (by omega)]; rfl)).1
  have h4 : p25 n 4 ⟨encB num fs, c⟩ = some 12 := (g.rd (n := n) (i := 4) (c := c) (x := 12) (by omega) (by omega) (by rw [encB_hd _ _ _ (by omega)]; rfl) (by rw [encB_hd _ _ _ (by omega)]; rfl)).1
  have h8 : p25 n 8 ⟨encB num fs, c⟩ = some (total fs : Int) := (g.rd (n := n) (i := 8) (c := c) (by omega) (by omega) (by rw [encB_hd _ _ _ (by omega)]; rfl) (by rw [encB_hd _ _ _ (by omega)]; rfl)).1
  have h6 : p25 n 6 ⟨encB num fs, c⟩ = some num := (g.rd (n := n) (i := 6) (c := c) (by omega) (by omega) (by rw [encB_hd _ _ _ (by omega)]; rfl) (by rw [encB_hd _ _ _ (by omega)]; rfl)).1
  have hT4 : p25 n ((12 + (body fs).length + 4 : Nat) : Int) ⟨encB num fs, c⟩ = some ((12 + 4 * fs.length : Nat) : Int) := (g.rd (n := n) (c := c) (by omega) (by omega) (by rw [encB_tl]; rfl) (by rw [Nat.add_assoc (12 + (body fs).length), encB_tl]; rfl)).1
  have hT6 : p25 n ((12 + (body fs).length + 6 : Nat) : Int) ⟨encB num fs, c⟩ = some 0 := (g.rd (n := n) (c := c) (x := 0) (by omega) (by omega) (by rw [encB_tl]; rfl) (by rw [Nat.add_assoc (12 + (body fs).length), encB_tl]; rfl)).1
  obtain ⟨z1, z2, z3, z4⟩ := tl_end fs
  have hE1 : p25 n ((12 + (body fs).length + (8 + 4 * fs.length) : Nat) : Int) ⟨encB num fs, c⟩ = some 0 := (g.rd (n := n) (c := c) (x := 0) (by omega) (by omega) (by rw [encB_tl]; exact z1) (by rw [Nat.add_assoc (12 + (body fs).length), encB_tl]; exact z2)).1
  have hE2 : p25 n ((12 + (body fs).length + (8 + 4 * fs.length + 2) : Nat) : Int) ⟨encB num fs, c⟩ = some 0 := (g.rd (n := n) (c := c) (x := 0) (by omega) (by omega) (by rw [encB_tl]; exact z3) (by rw [Nat.add_assoc (12 + (body fs).length), encB_tl]; exact z4)).1
  have s1 : slI (⟨encB num fs, c⟩ : Sl Int) 0 4 = some ⟨[78, 67, 77, 72], c.map (· - 0)⟩ := slice_at (A := []) (f := [78, 67, 77, 72]) (o := 0) (m := 4) rfl rfl
  have s2 : slI (⟨encB num fs, c⟩ : Sl Int) ((12 + (body fs).length : Nat) : Int) ((12 + (body fs).length + 4 : Nat) : Int) = some ⟨[78, 67, 77, 48], c.map (· - (12 + (body fs).length))⟩ := by
    rw [encB_eq, ← List.append_assoc]
    exact slice_at (A := hd num fs ++ body fs) (f := [78, 67, 77, 48]) (by simp [hd]; omega) rfl
  have b4 := body_4 fs
  unfold p12
  rw [len_eq, encB_len, orS, Option.bind_some, if_neg (by simp; omega), h10, Option.bind_some, s1, Option.bind_some]
  rw [if_pos (by simp), h4, Option.bind_some, Option.bind_some, if_pos (by simp), h8, Option.bind_some, Option.bind_some, if_pos (by simp), Option.bind_some, if_pos (by simp; omega), remI_ok (by omega) (by decide) (by simp; omega), Option.bind_some, Option.bind_some, if_pos (by simp; omega), ck_i64 (by omega), Option.bind_some, Option.bind_some, if_neg (by simp; omega)]
  have k2 : ckI .i64 (((12 + (body fs).length : Nat) : Int) + 4) = some ((12 + (body fs).length + 4 : Nat) : Int) := ck_i64 (by omega)
  have k3 : ckI .i64 (((12 + (body fs).length : Nat) : Int) + ((12 + 4 * fs.length : Nat) : Int)) = some (((12 + (body fs).length : Nat) : Int) + ((12 + 4 * fs.length : Nat) : Int)) := ck_i64 (by omega)
  have k4 : ckI .i64 (((12 + (body fs).length : Nat) : Int) + 6) = some ((12 + (body fs).length + 6 : Nat) : Int) := ck_i64 (by omega)
  have k5 : ckI .i64 (((12 + (body fs).length : Nat) : Int) + ((12 + 4 * fs.length : Nat) : Int) - 4) = some ((12 + (body fs).length + (8 + 4 * fs.length) : Nat) : Int) := (ck_i64 (by omega)).trans (congrArg some (by omega))
  have k6 : ckI .i64 (((12 + (body fs).length : Nat) : Int) + ((12 + 4 * fs.length : Nat) : Int) - 2) = some ((12 + (body fs).length + (8 + 4 * fs.length + 2) : Nat) : Int) := (ck_i64 (by omega)).trans (congrArg some (by omega))
  have k7 : ckI .i64 (((12 + (body fs).length : Nat) : Int) + 8) = some ((12 + (body fs).length + (8 + 4 * 0) : Nat) : Int) := ck_i64 (by omega)
  have k8 : remI .i64 ((12 + 4 * fs.length : Nat) : Int) 4 = some (((12 + 4 * fs.length : Nat) : Int) % 4) := remI_ok (by omega) (by decide) (by simp <;> omega)
  rw [k2, Option.bind_some, hT4, Option.bind_some, Option.bind_some, s2, Option.bind_some]
  rw [if_pos (by simp), Option.bind_some, if_pos (by simp <;> omega), k8, Option.bind_some, Option.bind_some, if_pos (by simp <;> omega), k3, Option.bind_some, Option.bind_some, if_pos (by simp <;> omega), k4, Option.bind_some, hT6, Option.bind_some, Option.bind_some]
  rw [if_pos (by simp), Option.bind_some, k5, Option.bind_some, hE1, Option.bind_some, Option.bind_some]
  rw [if_pos (by simp), Option.bind_some, k6, Option.bind_some, hE2, Option.bind_some, Option.bind_some]
  rw [if_neg (by simp), h6, Option.bind_some, k7, Option.bind_some, p12_l1_eq g n c n 0 [] (by omega) (by omega) rfl, Option.bind_some]
  have ho : (outs fs).length = fs.length := by simp [outs]
  simp only [lrK, List.drop_zero, List.nil_append]
  rw [if_neg (by simp [lenI, ho]; omega), p27_eq, Option.bind_some, wrap_u16, show num % 65536 = num by omega, ho]
end
end Go.Proofs.Ytlgalcekkffhnaa
