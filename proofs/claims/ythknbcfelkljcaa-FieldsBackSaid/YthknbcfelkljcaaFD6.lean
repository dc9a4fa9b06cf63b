/- Fields in plain words: what is written to one element leaves the others. Plain theorems, no condition. -/
import Derived.Test.YthknbcfelkljcaaFD9
set_option linter.unusedVariables false
set_option linter.unusedSimpArgs false
namespace Go.Proofs.Ythknbcfelkljcaa
open Go.RowKit
theorem num_congr {nb : Bool} {b c : List Int} {off : Nat} : ∀ (S : Nat), (∀ i, i < S → bt nb b (off + i) = bt nb c (off + i)) → num nb b off S = num nb c off S
  | 0, _ => rfl
  | i + 1, h => by rw [num, num, num_congr i fun t ht => h t (by omega), h i (by omega)]
theorem numOf_same {m : Mpt} {b : List Int} {f : Fd} {q : Nat} {v : Int} (hb : Byts b) (hE : Elm m b f q) (hv : e_A f v = true) : b_U m (wrB m.2.2 b (off f q) v (fS f).toNat) f q = v := by
  unfold b_U
  rw [e_p (v := v) (fS f).toNat fun i hi => by
    rw [wrB_bt hb (fS f).toNat hE.len (off f q + i), if_pos (by omega), show off f q + i - off f q = i by omega]]
  exact sgn_fit hE.ok.1.1 hv
theorem numOf_other {m : Mpt} {b : List Int} {f g : Fd} {q j : Nat} {v : Int} (hb : Byts b) (hE : Elm m b f q) (hd : off f q + (fS f).toNat ≤ off g j ∨ off g j + (fS g).toNat ≤ off f q) : b_U m (wrB m.2.2 b (off f q) v (fS f).toNat) g j = b_U m b g j := by
  unfold b_U
  refine congrArg _ (num_congr _ fun i hi => ?_)
  rw [wrB_bt hb (fS f).toNat hE.len (off g j + i), if_neg (by omega)]
theorem off_apart {f : Fd} {q j : Nat} (h : q ≠ j) : off f q + (fS f).toNat ≤ off f j ∨ off f j + (fS f).toNat ≤ off f q := by
  unfold off
  rcases Nat.lt_or_gt_of_ne h with h | h
  · left
    have : (q + 1) * (fS f).toNat ≤ j * (fS f).toNat := Nat.mul_le_mul (by omega) (Nat.le_refl _)
    rw [Nat.add_mul, Nat.one_mul] at this
    omega
  · right
    have : (j + 1) * (fS f).toNat ≤ q * (fS f).toNat := Nat.mul_le_mul (by omega) (Nat.le_refl _)
    rw [Nat.add_mul, Nat.one_mul] at this
    omega
theorem off_behind {f g : Fd} {q j : Nat} (hf : okA f) (hf0 : 0 ≤ fA f) (h : fA f + fS f * fC f ≤ fA g) (hq : (q : Int) < fC f) : off f q + (fS f).toNat ≤ off g j := by
  obtain ⟨⟨a1, a2⟩, a3, a4⟩ := hf
  obtain ⟨S, hS⟩ := Int.eq_ofNat_of_zero_le (show 0 ≤ fS f by omega)
  obtain ⟨A, hA⟩ := Int.eq_ofNat_of_zero_le hf0
  obtain ⟨C, hC⟩ := Int.eq_ofNat_of_zero_le (show 0 ≤ fC f by omega)
  have e4 : ((S : Int) * (C : Int)) = ((S * C : Nat) : Int) := by simp
  rw [hS, hA, hC, e4] at h
  rw [hC] at hq
  have : (q + 1) * S ≤ C * S := Nat.mul_le_mul (by omega) (Nat.le_refl _)
  rw [Nat.add_mul, Nat.one_mul, Nat.mul_comm C S] at this
  unfold off
  rw [hS, hA]
  simp only [Int.toNat_natCast]
  omega
def Apt (fs : List Fd) : Prop := ∀ (i j : Nat) (f g : Fd), i < j → fs[i]? = some f → fs[j]? = some g → f.1 = g.1 → f.2.1 = g.2.1 → fA f + fS f * fC f ≤ fA g
theorem off_two {m : Mpt} (hp : Ppr m) (ha : Apt m.1.xs) {k r : Int} {i i2 q q2 : Nat} {f g : Fd} (hf : m.1.xs[i]? = some f) (hg : m.1.xs[i2]? = some g) (hmf : mt k r f = true) (hmg : mt k r g = true) (hq : (q : Int) < fC f) (hq2 : (q2 : Int) < fC g) (hne : ¬ (i2 = i ∧ q2 = q)) : off f q + (fS f).toNat ≤ off g q2 ∨ off g q2 + (fS g).toNat ≤ off f q := by
  obtain ⟨f1, f2⟩ := d_L hmf
  obtain ⟨g1, g2⟩ := d_L hmg
  have hF := hp f (List.mem_of_getElem? hf)
  have hG := hp g (List.mem_of_getElem? hg)
  by_cases e : i2 = i
  · subst e
    rw [hf] at hg
    obtain rfl := Option.some.inj hg
    exact off_apart fun h => hne ⟨rfl, h.symm⟩
  · rcases Nat.lt_or_gt_of_ne e with h | h
    · exact .inr (off_behind hG.1 hG.2.1 (ha i2 i g f h hg hf (g1.trans f1.symm) (g2.trans f2.symm)) hq2)
    · exact .inl (off_behind hF.1 hF.2.1 (ha i i2 f g h hf hg (f1.trans g1.symm) (f2.trans g2.symm)) hq)
end Go.Proofs.Ythknbcfelkljcaa
