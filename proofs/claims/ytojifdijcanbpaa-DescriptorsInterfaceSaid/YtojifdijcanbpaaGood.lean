/- The walks of good, refused and setting. -/
import Derived.Test.YtojifdijcanbpaaEq
import Derived.Test.YtojifdijcanbpaaEncIf
set_option linter.unusedSimpArgs false
set_option linter.unusedVariables false
namespace Go.Proofs.Ytojifdijcanbpaa
open Go.RowKit

set_option maxHeartbeats 1000000 in
set_option maxRecDepth 100000 in
theorem good_nil (w : World) : Calls Try.prog 19 #[.slice none 0 0, .int .i64 1, .string (strOfNums [])] w fun e w' => e = .returned (.bool true) ∧ w = w' := by
  have t0 : (strOfNums []).toList = [] := (str_toList _).trans rfl
  go_enter Try.func19, Try.ntmps19
  go_wp2_with fail
  go_ret
  exact ⟨rfl, rfl⟩

set_option maxHeartbeats 1000000 in
set_option maxRecDepth 100000 in
theorem good_yes (g n : Nat) (l : List Int) (w : World) (hl : l.length = n) (hne : l ≠ []) (hg : w.heap[g]? = some (.cells (u8s l).toArray 5 (0, 0))) (hn : n ≤ 1000) :
    Calls Try.prog 19 #[.slice (some ⟨g, 0, none⟩) n n, .int .i64 0, .string (strOfNums l)] w fun e w' => e = .returned (.bool true) ∧ w = w' := by
  have hs := str_new (P := Try.prog) (c := n) (n := n) 23 9 5 Try.underlying23 Try.underlying5 Try.underlying9 l hg hl rfl
  have t0 : ((strOfNums l).toList == []) = false := by rw [str_empty]; simpa using hne
  have t1 : (strOfNums l).size = n := by rw [strOfNums_size, hl]
  have t2 : (strOfNums l).toList.isEmpty = false := by
    rw [← t0]; cases (strOfNums l).toList <;> rfl
  clear hl hne hg
  go_enter Try.func19, Try.ntmps19
  go_wp2_with fail
  go_ret
  exact ⟨rfl, rfl⟩

set_option maxHeartbeats 1000000 in
theorem refused_any (e n s : Int) (w : World) (h : (n ≠ s ∧ e = 5) ∨ (n = s ∧ e = 4)) : Calls Try.prog 22 #[.int .i64 e, .int .i64 n, .int .i64 s] w fun e w' => e = .returned (.bool true) ∧ w = w' := by
  rcases h with ⟨h, rfl⟩ | ⟨rfl, rfl⟩
  · have h1 : (n != s) = true := by simp [h]
    clear h
    go_enter Try.func22, Try.ntmps22
    go_wp2_with fail
    go_ret
    exact ⟨rfl, rfl⟩
  · go_enter Try.func22, Try.ntmps22
    go_wp2_with fail
    go_ret
    exact ⟨rfl, rfl⟩

set_option maxHeartbeats 1000000 in
set_option maxRecDepth 100000 in
theorem setting_any (n a e c s p t : Int) (w : World) (h1 : U8 n) (h2 : U8 a) (h3 : U8 e) :
    Calls Try.prog 31 #[ifV n a e c s p t] w fun e' w' => e' = .returned (.string (strOfNums (ifL n a e c s p t))) ∧ Below w.heap.size w w' := by
  obtain ⟨_, _⟩ := h1
  obtain ⟨_, _⟩ := h2
  obtain ⟨_, _⟩ := h3
  have hs := run_str_lit (P := Try.prog) (w.alloc (.cells #[.int .u8 n, .int .u8 a, .int .u8 e, .int .u8 c, .int .u8 s, .int .u8 p, .int .u8 t] 73)) 23 9 5 Try.underlying23 Try.underlying5 Try.underlying9 7 7 (w.heap.size + 1) #[.int .u8 n, .int .u8 a, .int .u8 e, .int .u8 c, .int .u8 s, .int .u8 p, .int .u8 t] [n, a, e, c, s, p, t] rfl rfl (by simp)
  go_enter Try.func31, Try.ntmps31
  go_wp2_with fail
  all_goals go_ret
  all_goals refine ⟨ret_str ?_, by repeat (first | exact Below.refl _ _ | refine Below.alloc ?_ (by simp) _)⟩
  any_goals (rw [if_no (by omega)]; rfl)
  rw [if_yes (by omega), show (⟨#[9, 4]⟩ : ByteArray) = strOfNums [9, 4] from rfl, str_append]
  rfl
end Go.Proofs.Ytojifdijcanbpaa
