/- Fields in plain words: the map of a descriptor. Plain theorems, no condition. -/
import Derived.Test.YthknbcfelkljcaaFD7
set_option linter.unusedVariables false
set_option linter.unusedSimpArgs false
namespace Go.Proofs.Ythknbcfelkljcaa
open Go.RowKit
def FBs (l : List Fd) : Prop := ∀ f ∈ l, FB f
theorem FB.mul {f : Fd} (h : FB f) : 1 ≤ fS f * fC f ∧ fS f * fC f ≤ 108 := by
  obtain ⟨⟨a1, a2⟩, ⟨a3, a4⟩⟩ := And.intro h.S h.C
  constructor
  · have := Int.mul_le_mul a1 a3 (by omega) (by omega); simpa using this
  · have := Int.mul_le_mul a2 a4 (by omega) (by omega); simpa using this
theorem FB.okA {f : Fd} (h : FB f) : okA f := ⟨⟨h.S.1, by have := h.S; omega⟩, h.C.1, by have := h.C; omega⟩
@[reducible] def setP (f : Fd) (p a : Int) : Fd := (f.1, f.2.1, p, f.2.2.2.1, f.2.2.2.2.1, f.2.2.2.2.2.1, f.2.2.2.2.2.2.1, f.2.2.2.2.2.2.2.1, a, f.2.2.2.2.2.2.2.2.2.1, f.2.2.2.2.2.2.2.2.2.2.1, f.2.2.2.2.2.2.2.2.2.2.2.1, f.2.2.2.2.2.2.2.2.2.2.2.2)
theorem FB.setP {f : Fd} (h : FB f) (p a : Int) : FB (setP f p a) := ⟨h.S, h.C, h.R, h.U, h.nd, h.fit⟩
theorem sumB_rng {l : List Fd} (h : FBs l) (k r : Int) : 0 ≤ c_I l k r ∧ c_I l k r ≤ 108 * (l.length : Int) := by
  induction l with
  | nil => exact ⟨Int.le_refl _, Int.le_refl _⟩
  | cons f fs ih =>
    have h1 := (h f (by simp)).mul
    have h2 := ih fun g hg => h g (by simp [hg])
    rw [b_u, List.length_cons]
    split <;> omega
theorem sumB_append (a b : List Fd) (k r : Int) : c_I (a ++ b) k r = c_I a k r + c_I b k r := by
  induction a with
  | nil => show c_I b k r = 0 + c_I b k r; omega
  | cons f fs ih => rw [List.cons_append, b_u, b_u, ih, Int.add_assoc]
def Cum (l : List Fd) : Prop := ∀ (i : Nat) (f : Fd), l[i]? = some f → fA f = c_I (l.take i) f.1 f.2.1
theorem Cum.snoc {l : List Fd} (h : Cum l) {f : Fd} (hf : fA f = c_I l f.1 f.2.1) : Cum (l ++ [f]) := by
  intro i g hg
  by_cases hi : i < l.length
  · rw [List.getElem?_append_left hi] at hg
    rw [List.take_append_of_le_length (by omega)]
    exact h i g hg
  · rw [List.getElem?_append_right (by omega)] at hg
    have e : i - l.length = 0 := by
      rcases Nat.eq_zero_or_pos (i - l.length) with e | e
      · exact e
      · rw [List.getElem?_eq_none (by rw [List.length_singleton]; omega)] at hg; cases hg
    rw [e] at hg
    obtain rfl := Option.some.inj hg
    rw [show i = l.length by omega, List.take_left']
    · exact hf
    · rfl
theorem p20_l2_eq (n : Nat) (fs : List Fd) (hl : fs.length ≤ 20) (hS : FBs fs) : ∀ (m k : Nat) (f : Fd), fs.length - k < m → k ≤ fs.length → 0 ≤ fA f → fA f ≤ 108 * (k : Int) →
    p20_l2 n fs m k f = some (setP f f.2.2.1 (fA f + c_I (fs.drop k) f.1 f.2.1)) := by
  intro m
  induction m with
  | zero => intro k f hm; exact absurd hm (by omega)
  | succ m ih =>
    intro k f hm hk h0 h1
    have h0' : 0 ≤ f.2.2.2.2.2.2.2.2.1 := h0
    have h1' : f.2.2.2.2.2.2.2.2.1 ≤ 108 * (k : Int) := h1
    rw [p20_l2, b_g]
    by_cases hlt : k < fs.length
    · have hm1 := (hS _ (List.getElem_mem hlt)).mul
      rw [c_s (by omega), c_H hlt, Option.bind_some, Option.bind_some, Option.bind_some, Option.bind_some, a_Q hlt, b_u]
      generalize fs[k] = g at hm1
      have hm2 : 1 ≤ g.2.2.2.2.2.2.1 * g.2.2.2.2.2.2.2.1 ∧ g.2.2.2.2.2.2.1 * g.2.2.2.2.2.2.2.1 ≤ 108 := hm1
      rw [mt_eq, Option.bind_some]
      by_cases hq : mt f.1 f.2.1 g = true
      · rw [if_pos hq, if_pos hq, ckS (by omega) (by omega), Option.bind_some, ckS (by omega) (by omega), Option.bind_some, Option.bind_some, ckS (by omega) (by omega), Option.bind_some, a_3]
        have := ih (k + 1) (setP f f.2.2.1 (f.2.2.2.2.2.2.2.2.1 + g.2.2.2.2.2.2.1 * g.2.2.2.2.2.2.2.1)) (by omega) (by omega) (by show 0 ≤ f.2.2.2.2.2.2.2.2.1 + g.2.2.2.2.2.2.1 * g.2.2.2.2.2.2.2.1; omega) (by show f.2.2.2.2.2.2.2.2.1 + g.2.2.2.2.2.2.1 * g.2.2.2.2.2.2.2.1 ≤ _; omega)
        refine this.trans (congrArg some ?_)
        show setP f f.2.2.1 ((f.2.2.2.2.2.2.2.2.1 + g.2.2.2.2.2.2.1 * g.2.2.2.2.2.2.2.1) + c_I (fs.drop (k + 1)) f.1 f.2.1) = setP f f.2.2.1 (f.2.2.2.2.2.2.2.2.1 + (g.2.2.2.2.2.2.1 * g.2.2.2.2.2.2.2.1 + c_I (fs.drop (k + 1)) f.1 f.2.1))
        rw [Int.add_assoc]
      · rw [if_neg hq, if_neg hq, Option.bind_some, ckS (by omega) (by omega), Option.bind_some, a_3, ih (k + 1) f (by omega) (by omega) h0 (by omega), Int.zero_add]
    · rw [c_E (by omega), List.drop_eq_nil_of_le (by omega)]
      refine congrArg some ?_
      show f = setP f f.2.2.1 (fA f + 0)
      rw [Int.add_zero]
theorem p20_l1_eq {n : Nat} (hn : 1100 ≤ n) (x0 : Bool × Sl Dy) (hx : ∀ y ∈ x0.2.xs, Dok y) : ∀ (m i : Nat) (op : List Int) (fs : List Fd) (cs : List (Int × Int × Int)) (nb : Bool), 20 - i < m → i ≤ 20 → i ≤ x0.2.xs.length → fs.length = i → FBs fs → Cum fs → 1 ≤ op.length → op.length ≤ 5 → cs.length ≤ 1 + i → (i = 0 ∨ nb = x0.1) →
    ∃ fs' cs' nb', p20_l1 n x0 m i op fs cs nb = some (fs', cs', nb') ∧ fs'.length ≤ 20 ∧ FBs fs' ∧ Cum fs' ∧ (fs' = [] ∨ nb' = x0.1) := by
  intro m
  induction m with
  | zero => intro i op fs cs nb hm; exact absurd hm (by omega)
  | succ m ih =>
    intro i op fs cs nb hm hi hil hfl hS hC ho1 ho5 hcs hnb
    rw [p20_l1, a_O]
    by_cases hlt : i < x0.2.xs.length ∧ i < 20
    · obtain ⟨h1, h2⟩ := hlt
      obtain ⟨f, hf, hB, hA⟩ := p40_ok hn x0 i x0.2.xs[i] (c_H h1) (hx _ (List.getElem_mem h1))
      rw [c_s (by omega), decide_eq_true (show (i : Int) < 20 by omega), Option.bind_some, if_pos rfl, hf, Option.bind_some, c_H h1, Option.bind_some]
      generalize x0.2.xs[i] = y
      have e1 : ∃ (op' : List Int) (cs' : List (Int × Int × Int)), ((if ((a_l .and .u8 y.2.2.2.2.2.2.2 8) != 0) = true then some (decide ((a_h (⟨op, .none⟩ : Sl (Int))) < 5)) else some false).bind fun q_85 => (if q_85 = true then ((b_J .i64 (i : Int) 4).bind fun x_213 => (ckI .i64 ((a_h (⟨op, .none⟩ : Sl (Int))) - 1)).bind fun x_215 => (idx op x_215).bind fun y_216 => (d_B cs ([(IntKind.wrap .u8 x_213, a_l .or .u32 458752 (IntKind.wrap .u32 (i : Int)), y_216)])).bind fun l_310 => (ckI .i64 ((a_h (⟨l_310, d_x .none l_310.length⟩ : Sl (Int × Int × Int))) - 1)).bind fun x_320 => (d_B op ([x_320])).bind fun l_325 => some (l_325, l_310)) else some (op, cs))) = some (op', cs') ∧ 1 ≤ op'.length ∧ op'.length ≤ 5 ∧ cs'.length ≤ 1 + (i + 1) := by
        by_cases hb : (((a_l .and .u8 y.2.2.2.2.2.2.2 8) != 0) = true) ∧ op.length < 5
        · have hr : b_J .i64 (i : Int) 4 = some ((i : Int) % 4) := b_O (by omega) (by decide) (by unfold InR; simp only [IntKind.min, IntKind.max, IntKind.signed, IntKind.bits]; simp; omega)
          rw [if_pos hb.1, b_g, decide_eq_true (show (op.length : Int) < 5 by omega), Option.bind_some, if_pos rfl, hr, Option.bind_some, ckS (by omega) (by omega), Option.bind_some, idx_of (show 0 ≤ (op.length : Int) - 1 by omega) (by omega), Option.bind_some, b_6 (by omega), Option.bind_some, b_g, ckS (by rw [List.length_append]; omega) (by rw [List.length_append, List.length_singleton]; omega), Option.bind_some, b_6 (by omega), Option.bind_some]
          refine ⟨_, _, rfl, ?_, ?_, ?_⟩ <;> rw [List.length_append, List.length_singleton] <;> omega
        · refine ⟨op, cs, ?_, ho1, ho5, by omega⟩
          have hf' : (if ((a_l .and .u8 y.2.2.2.2.2.2.2 8) != 0) = true then some (decide ((a_h (⟨op, .none⟩ : Sl (Int))) < 5)) else some false) = some false := by
            by_cases hb1 : ((a_l .and .u8 y.2.2.2.2.2.2.2 8) != 0) = true
            · rw [if_pos hb1, b_g, decide_eq_false (fun h => hb ⟨hb1, by omega⟩)]
            · rw [if_neg hb1]
          rw [hf', Option.bind_some, if_neg (by decide)]
      obtain ⟨op', cs', e1, o1, o5, c1⟩ := e1
      have e2 : ∃ op2 : List Int, ((if ((a_l .and .u8 y.2.2.2.2.2.2.2 16) != 0) = true then some (decide ((a_h (⟨op', .none⟩ : Sl (Int))) > 1)) else some false).bind fun q_648 => (if q_648 = true then ((ckI .i64 ((a_h (⟨op', .none⟩ : Sl (Int))) - 1)).bind fun x_660 => (cutI op' x_660).bind fun l_661 => some l_661) else some op')) = some op2 ∧ 1 ≤ op2.length ∧ op2.length ≤ 5 := by
        by_cases hb : (((a_l .and .u8 y.2.2.2.2.2.2.2 16) != 0) = true) ∧ 1 < op'.length
        · have hc : cutI op' ((op'.length : Int) - 1) = some (op'.take (op'.length - 1)) := by
            unfold cutI
            rw [if_pos (by omega), show ((op'.length : Int) - 1).toNat = op'.length - 1 by omega]
          rw [if_pos hb.1, b_g, decide_eq_true (show (op'.length : Int) > 1 by omega), Option.bind_some, if_pos rfl, ckS (by omega) (by omega), Option.bind_some, hc, Option.bind_some]
          refine ⟨_, rfl, ?_, ?_⟩ <;> rw [List.length_take] <;> omega
        · refine ⟨op', ?_, o1, o5⟩
          have hf' : (if ((a_l .and .u8 y.2.2.2.2.2.2.2 16) != 0) = true then some (decide ((a_h (⟨op', .none⟩ : Sl (Int))) > 1)) else some false) = some false := by
            by_cases hb1 : ((a_l .and .u8 y.2.2.2.2.2.2.2 16) != 0) = true
            · rw [if_pos hb1, b_g, decide_eq_false (fun h => hb ⟨hb1, by omega⟩)]
            · rw [if_neg hb1]
          rw [hf', Option.bind_some, if_neg (by decide)]
      obtain ⟨op2, e2, o21, o25⟩ := e2
      have hR := sumB_rng hS f.1 f.2.1
      have h20 : ∀ p : Int, p20_l2 n fs n 0 (setP f p 0) = some (setP f p (c_I fs f.1 f.2.1)) := by
        intro p
        have := p20_l2_eq n fs (by omega) hS n 0 (setP f p 0) (by omega) (by omega) (Int.le_refl _) (Int.le_refl _)
        rw [show ((0 : Nat) : Int) = 0 from rfl] at this
        refine this.trans (congrArg some ?_)
        show setP f p (0 + c_I (fs.drop 0) f.1 f.2.1) = _
        rw [Int.zero_add, List.drop_zero]
      obtain ⟨fs', cs2, nb', r1, r2, r3, r4, r5⟩ := ih (i + 1) op2 (fs ++ [setP f (op'[((op'.length : Int) - 1).toNat]'(by omega)) (c_I fs f.1 f.2.1)]) cs' x0.1 (by omega) (by omega) (by omega) (by rw [List.length_append, List.length_singleton]; omega)
        (fun g hg => by
          rcases List.mem_append.1 hg with hg | hg
          · exact hS g hg
          · rw [List.mem_singleton.1 hg]; exact hB.setP _ _)
        (hC.snoc rfl) o21 o25 c1 (.inr rfl)
      refine ⟨fs', cs2, nb', ?_, r2, r3, r4, r5⟩
      rw [← r1]
      have a1 : ∀ {β γ : Type} (o : Option Bool) (k : Bool → Option β) (j : β → Option γ), (o.bind fun q => (k q).bind j) = (o.bind k).bind j := fun o k j => (Option.bind_assoc o k j).symm
      rw [a1, e1, Option.bind_some]
      simp only
      rw [b_g, ckS (by omega) (by omega), Option.bind_some, idx_of (show 0 ≤ (op'.length : Int) - 1 by omega) (by omega), Option.bind_some]
      have h20' := h20 (op'[((op'.length : Int) - 1).toNat]'(by omega))
      have hA' : f.2.2.2.2.2.2.2.2.1 = 0 := hA
      have ef : setP f (op'[((op'.length : Int) - 1).toNat]'(by omega)) 0 = (f.1, f.2.1, (op'[((op'.length : Int) - 1).toNat]'(by omega)), f.2.2.2.1, f.2.2.2.2.1, f.2.2.2.2.2.1, f.2.2.2.2.2.2.1, f.2.2.2.2.2.2.2.1, f.2.2.2.2.2.2.2.2.1, f.2.2.2.2.2.2.2.2.2.1, f.2.2.2.2.2.2.2.2.2.2.1, f.2.2.2.2.2.2.2.2.2.2.2.1, f.2.2.2.2.2.2.2.2.2.2.2.2) := by rw [hA']
      rw [← ef, h20', Option.bind_some, b_6 (by omega), Option.bind_some, Option.bind_some, a1]
      rw [b_g, ckS (by omega) (by omega)] at e2
      rw [e2, Option.bind_some, ckS (by omega) (by omega), Option.bind_some, a_3]
    · have e : (if (decide ((i : Int) < (x0.2.xs.length : Int))) = true then some (decide ((i : Int) < 20)) else some false) = some false := by
        by_cases h1 : i < x0.2.xs.length
        · rw [c_s (by omega), decide_eq_false (by omega)]
        · rw [c_E (by omega)]
      rw [e, Option.bind_some, if_neg (by decide)]
      refine ⟨fs, cs, nb, rfl, by omega, hS, hC, ?_⟩
      rcases hnb with h | h
      · exact .inl (List.eq_nil_of_length_eq_zero (by omega))
      · exact .inr h
theorem p20_ok {n : Nat} (hn : 1100 ≤ n) (x0 : Bool × Sl Dy) (hx : ∀ y ∈ x0.2.xs, Dok y) : ∃ m : Mpt, p20 n x0 = some m ∧ m.1.xs.length ≤ 20 ∧ FBs m.1.xs ∧ Cum m.1.xs ∧ (m.1.xs = [] ∨ m.2.2 = x0.1) := by
  obtain ⟨fs, cs, nb, r1, r2, r3, r4, r5⟩ := p20_l1_eq hn x0 hx n 0 [0] [] [(1, 65542, (-1))] false (by omega) (by omega) (by omega) rfl (fun f hf => absurd hf List.not_mem_nil) (fun i f hf => by simp at hf) (by decide) (by decide) (by decide) (.inl rfl)
  rw [show ((0 : Nat) : Int) = 0 from rfl] at r1
  refine ⟨(⟨fs, .none⟩, ⟨cs, .none⟩, nb), ?_, r2, r3, r4, r5⟩
  unfold p20
  rw [r1, Option.bind_some]
theorem Cum.apt {l : List Fd} (hS : FBs l) (h : Cum l) : Apt l := by
  intro i j f g hij hf hg e1 e2
  have hi : i < l.length := by
    rcases Nat.lt_or_ge i l.length with q | q
    · exact q
    · rw [List.getElem?_eq_none q] at hf; cases hf
  have hj := h j g hg
  have e3 : l.take j = l.take i ++ f :: (l.take j).drop (i + 1) := by
    have hl : i < (l.take j).length := by
      rw [List.length_take]
      rcases Nat.lt_or_ge j l.length with q | q
      · omega
      · rw [List.getElem?_eq_none q] at hg; cases hg
    have h1 := List.take_append_drop i (l.take j)
    rw [List.take_take, Nat.min_eq_left (by omega), a_Q hl] at h1
    have h2 : (l.take j)[i] = f := by
      rw [List.getElem_take]
      rw [List.getElem?_eq_getElem hi] at hf
      exact Option.some.inj hf
    rw [h2] at h1
    exact h1.symm
  have hd : FBs ((l.take j).drop (i + 1)) := fun q hq => hS q (List.mem_of_mem_take (List.mem_of_mem_drop hq))
  have hr := sumB_rng hd g.1 g.2.1
  rw [hj, e3, sumB_append, b_u, h i f hf, if_pos (by rw [← e1, ← e2]; exact d_0 f), e1, e2]
  omega
theorem Cum.ppr {m : Mpt} (hl : m.1.xs.length ≤ 20) (hS : FBs m.1.xs) (h : Cum m.1.xs) : Ppr m := by
  intro f hf
  have hB := hS f hf
  have hA : ∀ g ∈ m.1.xs, okA g := fun g hg => (hS g hg).okA
  obtain ⟨i, hi, rfl⟩ := List.mem_iff_getElem.1 hf
  have hc := h i m.1.xs[i] (List.getElem?_eq_getElem hi)
  have e : c_I m.1.xs m.1.xs[i].1 m.1.xs[i].2.1 = c_I (m.1.xs.take i) m.1.xs[i].1 m.1.xs[i].2.1 + (fS m.1.xs[i] * fC m.1.xs[i] + c_I (m.1.xs.drop (i + 1)) m.1.xs[i].1 m.1.xs[i].2.1) := by
    have hd := a_Q hi
    generalize m.1.xs[i] = f at hd ⊢
    have h1 : m.1.xs = m.1.xs.take i ++ f :: m.1.xs.drop (i + 1) := by rw [← hd, List.take_append_drop]
    have h2 : c_I m.1.xs f.1 f.2.1 = c_I (m.1.xs.take i ++ f :: m.1.xs.drop (i + 1)) f.1 f.2.1 := congrArg (fun l => c_I l f.1 f.2.1) h1
    rw [sumB_append, b_u, if_pos (d_0 _)] at h2
    exact h2
  have r1 := sumB_rng (fun g hg => hS g (List.mem_of_mem_take hg) : FBs (m.1.xs.take i)) m.1.xs[i].1 m.1.xs[i].2.1
  have r2 := sumB_rng (fun g hg => hS g (List.mem_of_mem_drop hg) : FBs (m.1.xs.drop (i + 1))) m.1.xs[i].1 m.1.xs[i].2.1
  have r3 := sumB_rng hS m.1.xs[i].1 m.1.xs[i].2.1
  have hR := hB.R
  have hU := hB.U
  refine ⟨hB.okA, ?_, ?_, ?_, .inr (by omega), ?_⟩
  · rw [hc]; exact r1.1
  · rw [hc]; omega
  · omega
  · rw [hc, sumC_B hA]; omega
end Go.Proofs.Ythknbcfelkljcaa
