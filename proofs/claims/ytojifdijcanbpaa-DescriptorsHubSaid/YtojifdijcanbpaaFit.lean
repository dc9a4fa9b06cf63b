/- The walks of the closure of Fits and of Fits. -/
import Derived.Test.YtojifdijcanbpaaJoin
set_option linter.unusedSimpArgs false
set_option linter.unusedVariables false
namespace Go.Proofs.Ytojifdijcanbpaa
open Go.RowKit

def pick3 (a b c s : Int) : Int := if s = 0 then a else if s = 1 then b else c

set_option maxHeartbeats 1000000 in
set_option maxRecDepth 100000 in
theorem most_any (lo fu hi m s : Int) (be bp : Nat) (w : World) (h1 : w.cell? ⟨be, 3, none⟩ = some (.int .u16 m)) (h2 : w.cell? ⟨bp, 0, none⟩ = some (.int .u8 s)) (h3 : s = 0 ∨ s = 1 ∨ s = 2) :
    Calls Try.prog 40 #[.int .u16 lo, .int .u16 fu, .int .u16 hi, .pointer (some ⟨be, 0, none⟩), .pointer (some ⟨bp, 0, none⟩)] w fun e w' => e = .returned (.bool (decide (m ≤ pick3 lo fu hi s))) ∧ Below w.heap.size w w' := by
  have l1 : be < w.heap.size := World.block_lt_of_cell? w _ h1
  have l2 : bp < w.heap.size := World.block_lt_of_cell? w _ h2
  rcases h3 with rfl | rfl | rfl
  all_goals
    go_enter Try.func40, Try.ntmps40
    go_wp2_with fail
    go_region
    go_wp2
    go_ret
    exact ⟨ret_bool (by simp [pick3]), ((Below.refl _ _).drew).alloc (Nat.le_refl _) _⟩

theorem fz_full {m : Int} : fzB m 1 = decide (m = 8 ∨ m = 16 ∨ m = 32 ∨ m = 64) := by simp [fzB]

def fitsB (n k m i s : Int) : Bool := validB n k m i && decide (s ≤ 2 ∧ ((k = 1 ∧ m ≤ pick3 0 1023 1024 s) ∨ (k = 3 ∧ m ≤ pick3 8 64 1024 s ∧ (s ≠ 2 ∨ i ≤ 16)) ∨ (k = 2 ∧ ((s = 1 ∧ (m = 8 ∨ m = 16 ∨ m = 32 ∨ m = 64)) ∨ (s = 2 ∧ m = 512)))))

theorem fits_yes {n k m i s : Int} (h : validB n k m i = true) : fitsB n k m i s = decide (s ≤ 2 ∧ ((k = 1 ∧ m ≤ pick3 0 1023 1024 s) ∨ (k = 3 ∧ m ≤ pick3 8 64 1024 s ∧ (s ≠ 2 ∨ i ≤ 16)) ∨ (k = 2 ∧ ((s = 1 ∧ (m = 8 ∨ m = 16 ∨ m = 32 ∨ m = 64)) ∨ (s = 2 ∧ m = 512))))) := by
  unfold fitsB; rw [h, Bool.true_and]

def FitPost (b : Bool) (w : World) (e : Ending) (w' : World) : Prop := e = .returned (.bool b) ∧ Below w.heap.size w w'

set_option maxHeartbeats 4000000 in
set_option maxRecDepth 100000 in
theorem fits_any (n : Int) (b : Bool) (k m i s : Int) (w : World) (he : IsEp n k m i) (hs : 0 ≤ s ∧ s ≤ 255) :
    Calls Try.prog 14 #[epV n b k m i, .int .u8 s] w (FitPost (fitsB n k m i s) w) := by
  have HE := Lib.hid he
  obtain ⟨⟨hn0, hn1⟩, ⟨hk0, hk1⟩, ⟨hm0, hm1⟩, hi0, hi1⟩ := he
  obtain ⟨hs0, hs1⟩ := hs
  have hmf : ∀ (fn : Fn) (first cap : Array Value) (w : World), (Instr.makeFunc fn first cap).run Try.prog w = .ok (.func fn first cap) w := fun _ _ _ _ => rfl
  by_cases hv : validB n k m i = true
  · by_cases h2 : 2 < s
    · have HF := Lib.hid (show fitsB n k m i s = false by simp [fitsB, hv]; omega)
      go_enter Try.func14, Try.ntmps14
      go_wp2_with (go_at_call 39; refine (valid_any _ _ _ _ _ _ HE.out).mono ?_; rintro e w1 ⟨rfl, hb1⟩; have hc1 := bcell hb1; have hz0 : w.heap.size < w1.heap.size := (by have := hb1.size; simp at this; omega); have hz1 : w.heap.size + 1 < w1.heap.size := by (have := hb1.size; simp at this; omega))
      go_ret
      exact ⟨ret_bool HF.out.symm, (((Below.refl _ _).alloc (Nat.le_refl _) _).alloc (by simp) _).trans (hb1.mono (by simp; omega))⟩
    · have hk : k = 2 ∨ k = 1 ∨ k = 3 := by simp only [validB, decide_eq_true_eq] at hv; omega
      have hs3 : s = 0 ∨ s = 1 ∨ s = 2 := by omega
      have HV := Lib.hid hv
      clear h2
      rcases hk with rfl | rfl | rfl <;> rcases hs3 with rfl | rfl | rfl
      all_goals
        go_enter Try.func14, Try.ntmps14
        go_wp2_with (first
          | (go_at_call 39; refine (valid_any _ _ _ _ _ _ HE.out).mono ?_; rintro e w1 ⟨rfl, hb1⟩; have hc1 := bcell hb1; have hz0 : w.heap.size < w1.heap.size := (by have := hb1.size; simp at this; omega); have hz1 : w.heap.size + 1 < w1.heap.size := by (have := hb1.size; simp at this; omega))
          | (go_at_call 40; refine (most_any _ _ _ m 0 _ _ _ ?_ ?_ (by omega)).mono ?_; (go_simp); (go_simp); rintro e w2 ⟨rfl, hb2⟩; have hc2 := bcell hb2; have hz2 : w1.heap.size ≤ w2.heap.size := hb2.size; have hz3 : w.heap.size < w2.heap.size := (by omega); have hz4 : w.heap.size + 1 < w2.heap.size := by omega)
          | (go_at_call 40; refine (most_any _ _ _ m 1 _ _ _ ?_ ?_ (by omega)).mono ?_; (go_simp); (go_simp); rintro e w2 ⟨rfl, hb2⟩; have hc2 := bcell hb2; have hz2 : w1.heap.size ≤ w2.heap.size := hb2.size; have hz3 : w.heap.size < w2.heap.size := (by omega); have hz4 : w.heap.size + 1 < w2.heap.size := by omega)
          | (go_at_call 40; refine (most_any _ _ _ m 2 _ _ _ ?_ ?_ (by omega)).mono ?_; (go_simp); (go_simp); rintro e w2 ⟨rfl, hb2⟩; have hc2 := bcell hb2; have hz2 : w1.heap.size ≤ w2.heap.size := hb2.size; have hz3 : w.heap.size < w2.heap.size := (by omega); have hz4 : w.heap.size + 1 < w2.heap.size := by omega)
          | (go_at_call 15; refine (fitsZero_any _ _ _ (by omega)).mono ?_; rintro e w1 ⟨rfl, rfl⟩))
      all_goals go_ret
      all_goals refine ⟨ret_bool ?_, ?_⟩
      all_goals first
        | (rw [fits_yes HV.out]
           try simp only [beq_iff_eq, beq_eq_false_iff_ne, ne_eq, fz_full, decide_eq_true_eq, decide_eq_false_iff_not] at *
           rw [Bool.eq_iff_iff]
           simp [pick3, fz_full]
           try (first | omega | (rename_i h; simp [pick3] at h; omega)))
        | exact (((Below.refl _ _).alloc (Nat.le_refl _) _).alloc (by simp) _).trans (hb1.mono (by simp; omega))
        | exact ((((Below.refl _ _).alloc (Nat.le_refl _) _).alloc (by simp) _).trans (hb1.mono (by simp; omega))).trans (hb2.mono (by omega))
        | go_ways
  · have hv : validB n k m i = false := by simpa using hv
    have HF := Lib.hid (show fitsB n k m i s = false by simp [fitsB, hv])
    go_enter Try.func14, Try.ntmps14
    go_wp2_with (go_at_call 39; refine (valid_any _ _ _ _ _ _ HE.out).mono ?_; rintro e w1 ⟨rfl, hb1⟩)
    go_ret
    exact ⟨ret_bool HF.out.symm, (((Below.refl _ _).alloc (Nat.le_refl _) _).alloc (by simp) _).trans (hb1.mono (by simp; omega))⟩

end Go.Proofs.Ytojifdijcanbpaa
