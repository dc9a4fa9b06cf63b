/- The walk of endpoint: the bytes of an endpoint's descriptor, or an empty text, for every argument. -/
import Derived.Test.YtojifdijcanbpaaFits
import Derived.Test.YtojifdijcanbpaaRegion
set_option linter.unusedSimpArgs false
set_option linter.unusedVariables false
namespace Go.Proofs.Ytojifdijcanbpaa
open Go.RowKit

theorem epL_no {n k m i : Int} {b : Bool} (h : validB n k m i = false) : strOfNums (epL n b k m i) = ⟨#[]⟩ := by simp [epL, h]; rfl

set_option maxHeartbeats 1000000 in
set_option maxRecDepth 100000 in
theorem endpoint_any (n : Int) (b : Bool) (k m i : Int) (w : World) (he : IsEp n k m i) :
    Calls Try.prog 13 #[epV n b k m i] w fun e w' => e = .returned (.string (strOfNums (epL n b k m i))) ∧ Below w.heap.size w w' := by
  have HE := Lib.hid he
  obtain ⟨⟨hn0, hn1⟩, ⟨hk0, hk1⟩, ⟨hm0, hm1⟩, hi0, hi1⟩ := he
  go_enter Try.func13, Try.ntmps13
  go_wp2_with fail
  all_goals try (
    go_ret
    refine ⟨ret_str (epL_no ?_).symm, by repeat (first | exact Below.refl _ _ | apply Below.drew | refine Below.alloc ?_ (by simp) _)⟩
    simp only [validB, decide_eq_false_iff_not]
    omega)
  any_goals (first | (exfalso; omega) | skip)
  all_goals
    refine wp_region_run [[], [(0, 63)], [], [(2, 65)], [(1, 64), (3, 66)], [(4, 67)], [(5, 68)], [], [(7, 70)], [(8, 71)], [(6, 69), (9, 72)], [], [(11, 74)], [(12, 75)], [(10, 73), (13, 76)], [(14, 77)]]
      (by kernel_rfl) (by kernel_rfl) (by kernel_rfl) (by kernel_rfl) ?_
    repeat (first
      | (apply RunOk.eq
         · intro W hW
           have hc := bcell hW
           simp only [FillDeps, List.nil_append, List.cons_append, List.getD_cons_zero, List.getD_cons_succ, eqv, forall_eq]
           first
             | (rintro _ ⟨g, rfl, hn, hg⟩
                have hs := fun c => str_new (P := Try.prog) (c := c) 23 9 5 Try.underlying23 Try.underlying5 Try.underlying9 _ hg hn rfl)
             | skip
           try simp only [Act.put, List.setIfInBounds_toArray, List.set_cons_zero, List.set_cons_succ]
           go_wp2_with (first
             | (go_at_call 25; refine (address_any _ _ _ _ _ _ ?_).mono ?_; (unfold IsEp; omega); rintro e w' ⟨rfl, hb⟩)
             | (go_at_call 38; refine (two_any _ _ (by omega) (by omega)).mono ?_; rintro e w' ⟨rfl, hb⟩))
           refine ⟨rfl, ?_, by first | exact Below.refl _ _ | assumption⟩
           unfold eqv
           conv => lhs; whnf)
      | (apply RunOk.u8
         · intro W hW
           have hc := bcell hW
           simp only [FillDeps, List.nil_append, List.cons_append, List.getD_cons_zero, List.getD_cons_succ, eqv, forall_eq]
           try simp only [Act.put, List.setIfInBounds_toArray, List.set_cons_zero, List.set_cons_succ]
           go_wp2_with fail
           refine ⟨rfl, ?_, (Below.refl _ _).alloc (by simp) _⟩
           first | exact isU8_1 | exact isU8_2 | exact isU8_3 | exact isU8_4))
    intro W hW
    have hc := bcell hW
    simp only [EndOk, List.nil_append, List.cons_append, List.getD_cons_zero, List.getD_cons_succ, eqv, forall_eq]
    repeat (rintro _ ⟨_, rfl, -, -⟩)
    try simp only [Act.put, List.setIfInBounds_toArray, List.set_cons_zero, List.set_cons_succ]
    go_wp2
    go_ret
    refine ⟨ret_str ?_, ?_⟩
    · clear hc hW
      unfold epL
      rw [if_pos (show validB n k m i = true by simp only [validB, decide_eq_true_eq]; omega), show (⟨#[7, 5]⟩ : ByteArray) = strOfNums [7, 5] from rfl]
      simp only [str_append, List.cons_append, List.nil_append]
      congr 1
      simp
      try omega
    · exact ((Below.refl _ _).alloc (Nat.le_refl _) _).trans (hW.mono (by simp))

end Go.Proofs.Ytojifdijcanbpaa
