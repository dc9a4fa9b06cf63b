/- The walks of low, high and join. -/
import Derived.Test.YtojifdijcanbpaaFits
import Derived.Test.YtojifdijcanbpaaRegion
set_option linter.unusedSimpArgs false
set_option linter.unusedVariables false
namespace Go.Proofs.Ytojifdijcanbpaa
open Go.RowKit

theorem info5 : (Try.prog.info? 5).map (fun i => (i.zero, i.size, i.bytes)) = some (some (.int .u8 0), 1, 1) := by kernel_rfl

set_option maxHeartbeats 400000 in
theorem low_any (n : Int) (w : World) (h0 : 0 ≤ n) (h1 : n ≤ 65535) :
    Calls Try.prog 42 #[.int .u16 n] w fun e w' => e = .returned (.int .u8 (n % 256)) ∧ w = w' := by
  obtain ⟨n, rfl⟩ := Int.eq_ofNat_of_zero_le h0
  go_enter Try.func42, Try.ntmps42
  go_wp2
  go_ret
  exact ⟨ret_int (by first | rfl | simp), rfl⟩

set_option maxHeartbeats 400000 in
theorem high_any (n : Int) (w : World) (h0 : 0 ≤ n) (h1 : n ≤ 65535) :
    Calls Try.prog 43 #[.int .u16 n] w fun e w' => e = .returned (.int .u8 (n / 256)) ∧ w = w' := by
  obtain ⟨n, rfl⟩ := Int.eq_ofNat_of_zero_le h0
  go_enter Try.func43, Try.ntmps43
  go_wp2
  go_ret
  refine ⟨ret_int ?_, rfl⟩
  first | rfl | simp

theorem u8_of_own {w : World} {base g n : Nat} {l : List Int} (h : w.ownsRow base 5 1 (.slice (some ⟨g, 0, none⟩) n n) n (u8s l)) : isU8 5 n l (.slice (some ⟨g, 0, none⟩) n n) w := by
  rcases h.2 with ⟨hv, _⟩ | ⟨g', cap, cur, hv, _, hg, _, _, hs, ht⟩
  · cases hv
  · simp only [Value.slice.injEq, Option.some.injEq, Addr.mk.injEq, and_true, true_and] at hv
    obtain ⟨rfl, rfl⟩ := hv
    have hl := h.1
    have hcur : cur = (u8s l).toArray := by
      rw [← ht, Nat.mul_one, List.take_of_length_le (by rw [Array.length_toList, hs]; omega)]
    exact ⟨g, rfl, by simpa using hl, by rw [hg, hcur]⟩

def JoinPost (n : Nat) (l : List Int) (w : World) (e : Ending) (w' : World) : Prop := ∃ v, e = .returned v ∧ isU8 5 n l v w' ∧ Below w.heap.size w w'

set_option maxHeartbeats 1000000 in
set_option maxRecDepth 100000 in
theorem join_any (k : Int) (l : List Int) (g n c : Nat) (hn : l.length = n) (hn' : n ≤ 100) (w : World) (hg : w.heap[g]? = some (.cells (u8s l).toArray 5 (0, 0))) :
    Calls Try.prog 41 #[.int .u8 k, .slice (some ⟨g, 0, none⟩) n c] w (JoinPost (n + 2) (((n : Int) + 2) :: k :: l) w) := by
  obtain ⟨i0, hi, hz0, hz1, hz2⟩ := info_parts info5
  have Hn := Lib.hid hn
  clear hn
  have hcl : ∀ j u, (u8s l)[j]? = some u → w.cell? ⟨g, j, none⟩ = some u := fun j u hj => by
    rw [cell_of_row w g j _ 5 (0, 0) hg]; simpa using hj
  have Hcl := Lib.hid hcl
  have hgl : g < w.heap.size := (Array.getElem?_eq_some_iff.1 hg).1
  clear hcl hg
  go_enter Try.func41, Try.ntmps41
  go_wp2_with (first
    | (at_make; (refine wpList_make_own _ rfl (.const (.int .i64 0)) (.tmp 7) 23 rfl w.heap.size 5 i0 _ 1 Try.underlying23 hi hz0 hz1 .i64 .i64 ((n : Int) + 2) (n + 2) rfl rfl (by omega) (by rw [hz2]; omega) (by simp only [maxLen]; omega) (Nat.le_refl _) ?_; intro w1 hown1 hg1))
    | (at_builtin; (refine wpList_append_fits _ rfl (.tmp 8) (.tmp 14) 23 rfl w.heap.size 5 i0 1 Try.underlying23 hi hz1 w.heap.size 0 (n + 2) [] rfl (hown1.alloc _) ⟨w1.heap.size, 0, none⟩ 2 2 [.int .u8 ((n : Int) + 2), .int .u8 k] rfl rfl (cells_lit _ _ _) (by simp [Value.oneCell']) (by omega) ?_; intro w2 hown2 hg2))
    | (at_builtin; (refine wpList_append_fits _ rfl (.tmp 15) (.tmp 16) 23 rfl w.heap.size 5 i0 1 Try.underlying23 hi hz1 w.heap.size 2 (n + 2) [.int .u8 ((n : Int) + 2), .int .u8 k] rfl (by simpa using hown2) ⟨g, 0, none⟩ n c (u8s l) rfl (by rw [u8s_length, Hn.out, Nat.mul_one]) ?_ (u8s_one _) (by omega) ?_; rotate_left; intro w3 hown3 hg3)))
  · go_ret
    have hg1' : Below w.heap.size w w1 := (Below.refl _ _).grown hg1 (Nat.le_refl _) (by simp)
    have hg2' : Below w.heap.size w w2 := (hg1'.alloc hg1'.size _).grown hg2 (by have := hg1'.size; simp; omega) (by simp)
    have hg3' : Below w.heap.size w w3 := hg2'.grown hg3 hg2'.size (by simp)
    refine ⟨_, rfl, ?_, hg3'⟩
    have e : 2 + n = n + 2 := by omega
    rw [e] at hown3 ⊢
    exact u8_of_own (l := ((n : Int) + 2) :: k :: l) hown3
  · intro j u hj
    rw [Addr.add_lit, Nat.zero_add, ← Hcl.out j u hj]
    have hg1' : Below w.heap.size w w1 := (Below.refl _ _).grown hg1 (Nat.le_refl _) (by simp)
    have hg2' : Below w.heap.size w w2 := (hg1'.alloc hg1'.size _).grown hg2 (by have := hg1'.size; simp; omega) (by simp)
    exact hg2'.cell (p := ⟨g, j, none⟩) hgl

end Go.Proofs.Ytojifdijcanbpaa
