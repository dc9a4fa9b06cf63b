/- The law DescriptorsFits, walked: it returns true for every argument, and writes nothing that was there. -/
import Derived.Test.YtojifdijcanbpaaLives
import Derived.Test.YtojifdijcanbpaaEp
set_option linter.unusedSimpArgs false
set_option linter.unusedVariables false
namespace Go.Proofs.Ytojifdijcanbpaa
open Go.RowKit

def small4 (x : Int) : Bool := decide (x = 8 ∨ x = 16 ∨ x = 32 ∨ x = 64)
def in3 (n k m i s : Int) : Bool := validB n k m i && decide (s < 3)
theorem epL_ne {n k m i : Int} {b : Bool} : ((strOfNums (epL n b k m i)).toList == []) = !validB n k m i := by
  rw [str_empty]
  unfold epL
  cases validB n k m i <;> simp

set_option maxHeartbeats 4000000 in
set_option maxRecDepth 100000 in
theorem lawFits_any (n : Int) (b : Bool) (k m i s x : Int) (w : World) (he : IsEp n k m i) (hs : 0 ≤ s ∧ s ≤ 255) :
    Calls Try.prog 4 #[epV n b k m i, .int .u8 s, .int .i64 x] w (LivesPost w) := by
  have HE := Lib.hid he
  have HS := Lib.hid hs
  obtain ⟨⟨hn0, hn1⟩, ⟨hk0, hk1⟩, ⟨hm0, hm1⟩, hi0, hi1⟩ := he
  obtain ⟨hs0, hs1⟩ := hs
  go_enter Try.func4, Try.ntmps4
  go_upto_region 2 with fail
  go_cut [8] (fun s8 wx => s8 = .bool (small4 x) ∧ wx = w.alloc (.cells #[.int .u8 n, .bool b, .int .u8 k, .int .u16 m, .int .u8 i] 35))
  case first =>
    go_wp2_with fail
    all_goals
      go_meet
      refine ⟨congrArg Value.bool ?_, rfl⟩
      rw [Bool.eq_iff_iff]
      simp [small4]
      try omega
  case rest =>
    obtain ⟨rfl, rfl⟩ := hcut
    go_upto_region 3 with fail
    go_cut [8, 9] (fun s8 s9 wx => s8 = .bool (small4 x) ∧ s9 = .bool (fzB x s) ∧ wx = w.alloc (.cells #[.int .u8 n, .bool b, .int .u8 k, .int .u16 m, .int .u8 i] 35))
    case first =>
      go_wp2_with fail
      all_goals
        go_meet
        refine ⟨congrArg Value.bool (by first | rfl | simp [*]), congrArg Value.bool ?_, rfl⟩
        rw [Bool.eq_iff_iff]
        simp [fzB, small4] at *
        try omega
    case rest =>
      obtain ⟨rfl, rfl, rfl⟩ := hcut
      go_upto_region 6 with fail
      go_cut [56] (fun s56 wx => s56 = .bool (in3 n k m i s) ∧ Below (w.heap.size + 1) (w.alloc (.cells #[.int .u8 n, .bool b, .int .u8 k, .int .u16 m, .int .u8 i] 35)) wx)
      case first =>
        cases hv : validB n k m i
        all_goals
          have HV := Lib.hid hv
          have he1 : ((strOfNums (epL n b k m i)).toList == []) = !validB n k m i := epL_ne
          rw [hv] at he1
          clear hv
          go_wp2_with (go_at_call 13; refine (endpoint_any _ _ _ _ _ _ HE.out).mono ?_; rintro e w1 ⟨rfl, hb1⟩)
          go_meet
          exact ⟨congrArg Value.bool (by simp [HV.out, in3]), hb1.mono (by simp)⟩
      case rest =>
        obtain ⟨h56, hbw⟩ := hcut
        obtain ⟨w6, hw6⟩ : ∃ w6, w6 = wc := ⟨_, rfl⟩
        have hz6 : w.heap.size < w6.heap.size := by have := hbw.size; rw [hw6]; simp at this; omega
        have kb : ∀ j, w6.cell? ⟨w.heap.size, j, none⟩ = (#[Value.int .u8 n, .bool b, .int .u8 k, .int .u16 m, .int .u8 i] : Array Value)[j]? := fun j => by
          rw [hw6, hbw.cell (p := ⟨w.heap.size, j, none⟩) (by simp), World.cell?_alloc_at _ _ _ _ rfl]
        subst hw6
        have kb0 : w6.cell? ⟨w.heap.size, 0, none⟩ = some (.int .u8 n) := kb 0
        have kb1 : w6.cell? ⟨w.heap.size, 1, none⟩ = some (.bool b) := kb 1
        have kb2 : w6.cell? ⟨w.heap.size, 2, none⟩ = some (.int .u8 k) := kb 2
        have kb3 : w6.cell? ⟨w.heap.size, 3, none⟩ = some (.int .u16 m) := kb 3
        have kb4 : w6.cell? ⟨w.heap.size, 4, none⟩ = some (.int .u8 i) := kb 4
        clear kb
        have hbw' : Below w.heap.size w w6 := ((Below.refl _ _).alloc (Nat.le_refl _) _).trans (hbw.mono (by omega))
        have HB := Lib.hid hbw'
        clear hbw hbw'
        cases hi3 : in3 n k m i s
        · rw [hi3] at h56
          subst h56
          have hf : fitsB n k m i s = false := by
            cases hv : validB n k m i
            · simp [fitsB, hv]
            · have : ¬ s < 3 := by simpa [in3, hv] using hi3
              rw [fits_yes hv]
              simp
              omega
          clear hi3
          go_wp2_with (first | (go_at_call 14; refine (fits_any _ _ _ _ _ _ _ HE.out HS.out).mono ?_; rintro e w1 ⟨rfl, hb1⟩) | (go_at_call 15; refine (fitsZero_any _ _ _ HS.out).mono ?_; rintro e w' ⟨rfl, rfl⟩) | (go_at_call 11; refine (lives_any _).mono ?_; rintro e w2 ⟨rfl, hb2⟩))
          go_ret
          exact ⟨rfl, (HB.out.trans (hb1.mono HB.out.size)).trans (hb2.mono (by have h1 := HB.out.size; have h2 := hb1.size; omega))⟩
        · rw [hi3] at h56
          subst h56
          have hv : validB n k m i = true ∧ s < 3 := by simpa [in3] using hi3
          obtain ⟨hv, h3⟩ := hv
          have HF := Lib.hid (fits_yes (s := s) hv)
          have HV := Lib.hid hv
          have hs3 : s = 0 ∨ s = 1 ∨ s = 2 := by omega
          have hk : k = 2 ∨ k = 1 ∨ k = 3 := by simp only [validB, decide_eq_true_eq] at hv; omega
          have hm1' : 1 ≤ m := by simp only [validB, decide_eq_true_eq] at hv; omega
          have hm2' : m ≤ 1024 := by simp only [validB, decide_eq_true_eq] at hv; omega
          clear hi3 h3 hv
          go_upto_if 56 with fail
          go_cut [0, 10, 11] (fun s0 s10 s11 wx => s0 = epV n b k m i ∧ s10 = .int .u16 m ∧ s11 = .bool (fitsB n k m i s) ∧ wx = w6)
          case first =>
            rcases hk with rfl | rfl | rfl <;> rcases hs3 with rfl | rfl | rfl
            all_goals go_wp2_with fail
            all_goals go_meet
            all_goals refine ⟨?_, ?_, congrArg Value.bool ?_, rfl⟩
            any_goals (first | rfl | (simp [*]; done))
            all_goals
              rw [HF.out, Bool.eq_iff_iff]
              simp [pick3]
              try omega
          case rest =>
            obtain ⟨rfl, rfl, rfl, rfl⟩ := hcut
            go_wp2_with (first | (go_at_call 14; refine (fits_any _ _ _ _ _ _ _ HE.out HS.out).mono ?_; rintro e w1 ⟨rfl, hb1⟩) | (go_at_call 15; refine (fitsZero_any _ _ _ HS.out).mono ?_; rintro e w' ⟨rfl, rfl⟩) | (go_at_call 11; refine (lives_any _).mono ?_; rintro e w2 ⟨rfl, hb2⟩))
            go_ret
            exact ⟨rfl, (HB.out.trans (hb1.mono HB.out.size)).trans (hb2.mono (by have h1 := HB.out.size; have h2 := hb1.size; omega))⟩

end Go.Proofs.Ytojifdijcanbpaa
