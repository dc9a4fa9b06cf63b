/- The walks of EncodeEndpoint and EncodeInterface: the bytes of the descriptor, or the error, for every argument. -/
import Derived.Test.YtojifdijcanbpaaJoin
set_option linter.unusedSimpArgs false
set_option linter.unusedVariables false
namespace Go.Proofs.Ytojifdijcanbpaa
open Go.RowKit

def U8 (x : Int) : Prop := 0 ≤ x ∧ x ≤ 255
def U16 (x : Int) : Prop := 0 ≤ x ∧ x ≤ 65535
theorem heap_new {w : World} {o : Obj} {n : Nat} (h : n = w.heap.size) : (w.alloc o).heap[n]? = some o := by subst h; exact heap_alloc_new w o
/-- What an encoder returns whose bytes are l (none: the error). -/
def EncPost (l : List Int) (w : World) (e : Ending) (w' : World) : Prop :=
  (l = [] ∧ e = .returned (.tuple #[.slice none 0 0, .int .i64 1]) ∧ Below w.heap.size w w') ∨
  (l ≠ [] ∧ ∃ g, e = .returned (.tuple #[.slice (some ⟨g, 0, none⟩) l.length l.length, .int .i64 0]) ∧ w'.heap[g]? = some (.cells (u8s l).toArray 5 (0, 0)) ∧ Below w.heap.size w w')

theorem encPost_no {l : List Int} {w w' : World} (h : l = []) (hb : Below w.heap.size w w') : EncPost l w (.returned (.tuple #[.slice none 0 0, .int .i64 1])) w' := .inl ⟨h, rfl, hb⟩
theorem encPost_yes {l l' : List Int} {g n c : Nat} {w w' : World} (h : l = l') (hn : l'.length = n) (hne : n ≠ 0) (hc : c = n) (hg : w'.heap[g]? = some (.cells (u8s l').toArray 5 (0, 0))) (hb : Below w.heap.size w w') :
    EncPost l w (.returned (.tuple #[.slice (some ⟨g, 0, none⟩) n c, .int .i64 0])) w' := by
  subst h hc hn
  exact .inr ⟨fun h => hne (by rw [h]; rfl), g, rfl, hg, hb⟩

set_option maxHeartbeats 4000000 in
set_option maxRecDepth 100000 in
theorem encEp_any (n : Int) (b : Bool) (k m i : Int) (w : World) (he : IsEp n k m i) :
    Calls Try.prog 23 #[epV n b k m i] w (EncPost (epL n b k m i) w) := by
  have HE := Lib.hid he
  have ha : 0 ≤ adr n b ∧ adr n b ≤ 255 := by unfold adr; obtain ⟨⟨_, _⟩, _⟩ := he; cases b <;> simp <;> omega
  obtain ⟨⟨hn0, hn1⟩, ⟨hk0, hk1⟩, ⟨hm0, hm1⟩, hi0, hi1⟩ := he
  by_cases hv : validB n k m i = true
  · have Hv := Lib.hid hv
    go_enter Try.func23, Try.ntmps23
    go_wp2_with (go_at_call 39; refine (valid_any _ _ _ _ _ _ HE.out).mono ?_; rintro e w1 ⟨rfl, hb1⟩)
    have hc1 := bcell hb1
    have hz1 : w.heap.size < w1.heap.size := by have := hb1.size; simp at this; omega
    refine wp_region_run [[], [(0, 7)], [], [(2, 9)], [], [(4, 11)], [(5, 12)], [], [(7, 14)], [(8, 15)], [], [(10, 17)], [(1, 8), (3, 10), (6, 13), (9, 16), (11, 18)], [(12, 19)], [(13, 20)], []] (by kernel_rfl) (by kernel_rfl) (by kernel_rfl) (by kernel_rfl) ?_
    repeat (first
      | (apply RunOk.eq
         · intro W hW
           have hc := bcell hW
           simp only [FillDeps, List.nil_append, List.cons_append, List.getD_cons_zero, List.getD_cons_succ, eqv, forall_eq]
           first
             | (rintro _ ⟨g, rfl, hn, hg⟩
                have hs := fun c => str_new (P := Try.prog) (c := c) 23 9 5 Try.underlying23 Try.underlying5 Try.underlying9 _ hg hn rfl)
             | skip
           try simp only [Act.put, List.setIfInBounds_toArray, List.set_cons_zero, List.set_cons_succ]
           go_wp2_with (first | (go_at_call 41; refine (join_any _ _ _ _ _ hn (by omega) _ hg).mono ?_; rintro e w' ⟨v, rfl, hu, hb⟩) | (go_at_call 42; refine (low_any _ _ (by omega) (by omega)).mono ?_; rintro e w' ⟨rfl, rfl⟩) | (go_at_call 43; refine (high_any _ _ (by omega) (by omega)).mono ?_; rintro e w' ⟨rfl, rfl⟩) | (go_at_call 24; refine (Address_any _ _ _ _ _ _ HE.out).mono ?_; rintro e w' ⟨rfl, hb⟩))
           refine ⟨rfl, ?_, by first | exact Below.refl _ _ | assumption⟩
           unfold eqv
           conv => lhs; whnf)
      | (apply RunOk.u8
         · intro W hW
           have hc := bcell hW
           simp only [FillDeps, List.nil_append, List.cons_append, List.getD_cons_zero, List.getD_cons_succ, eqv, forall_eq]
           first
             | (rintro _ ⟨g, rfl, hn, hg⟩)
             | skip
           try simp only [Act.put, List.setIfInBounds_toArray, List.set_cons_zero, List.set_cons_succ]
           go_wp2_with (first | (go_at_call 41; refine (join_any _ _ _ _ _ hn (by omega) _ hg).mono ?_; rintro e w' ⟨v, rfl, hu, hb⟩) | (go_at_call 42; refine (low_any _ _ (by omega) (by omega)).mono ?_; rintro e w' ⟨rfl, rfl⟩) | (go_at_call 43; refine (high_any _ _ (by omega) (by omega)).mono ?_; rintro e w' ⟨rfl, rfl⟩) | (go_at_call 24; refine (Address_any _ _ _ _ _ _ HE.out).mono ?_; rintro e w' ⟨rfl, hb⟩))
           refine ⟨rfl, ?_, by first | exact Below.refl _ _ | exact (Below.refl _ _).alloc (by simp) _ | assumption⟩
           first | exact isU8_1 | exact isU8_2 | exact isU8_3 | exact isU8_4 | exact isU8_5 | exact isU8_7 | exact isU8_16 | assumption | exact ⟨_, rfl, hn, hg⟩))
    intro W hW
    have hc := bcell hW
    simp only [EndOk, List.nil_append, List.cons_append, List.getD_cons_zero, List.getD_cons_succ, eqv, forall_eq]
    repeat (rintro _ ⟨_, rfl, _, _⟩)
    try simp only [Act.put, List.setIfInBounds_toArray, List.set_cons_zero, List.set_cons_succ]
    go_wp2
    go_ret2
    refine encPost_yes (l' := [7, 5, adr n b, k, m % 256, m / 256, i]) (by simp [epL, Hv.out]) rfl (by decide) rfl ?_ (((Below.refl _ _).alloc (Nat.le_refl _) _).trans ((hb1.mono (by simp)).trans (hW.mono (by omega))))
    rename_i h
    simpa using h
  · have hv : validB n k m i = false := by simpa using hv
    go_enter Try.func23, Try.ntmps23
    go_wp2_with (go_at_call 39; refine (valid_any _ _ _ _ _ _ HE.out).mono ?_; rintro e w1 ⟨rfl, hb1⟩)
    go_ret2
    exact encPost_no (by simp [epL, hv]) (((Below.refl _ _).alloc (Nat.le_refl _) _).trans (hb1.mono (by simp)))

end Go.Proofs.Ytojifdijcanbpaa
