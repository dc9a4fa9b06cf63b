/- The walk of lives: the chapter's examples hold. -/
import Derived.Test.YtojifdijcanbpaaFit
import Derived.Test.YtojifdijcanbpaaCut
import Derived.Test.YtojifdijcanbpaaDiv
import Derived.Test.YtojifdijcanbpaaEncCf
import Derived.Test.YtojifdijcanbpaaEncHb
set_option linter.unusedSimpArgs false
set_option linter.unusedVariables false
namespace Go.Proofs.Ytojifdijcanbpaa
open Go.RowKit

theorem enc_get {l : List Int} {w w' : World} {e : Ending} (h : EncPost l w e w') (hl : l ≠ []) : ∃ g, e = .returned (.tuple #[.slice (some ⟨g, 0, none⟩) l.length l.length, .int .i64 0]) ∧ w'.heap[g]? = some (.cells (u8s l).toArray 5 (0, 0)) ∧ Below w.heap.size w w' := by
  rcases h with ⟨h, _⟩ | ⟨_, h⟩
  · exact absurd h hl
  · exact h

theorem rd_lit {w : World} {cs : Array Value} {t : TypeId} {l : List Value} (h : cs.toList = l) : Rd (w.alloc (.cells cs t)) (w.alloc (.cells cs t)).heap.size (some ⟨w.heap.size, 0, none⟩) l := by
  subst h; exact Rd.lit.more (by simp)

def LivesPost (w : World) (e : Ending) (w' : World) : Prop := e = .returned (.bool true) ∧ Below w.heap.size w w'

set_option maxHeartbeats 4000000 in
set_option maxRecDepth 100000 in
theorem lives_any (w : World) : Calls Try.prog 11 #[] w (LivesPost w) := by
  go_enter Try.func11, Try.ntmps11
  go_wp2_with fail
  refine (encEp_any 2 true 2 512 0 _ (by unfold IsEp; omega)).mono ?_
  intro e1 w1 h1
  obtain ⟨g1, rfl, hg1, hb1⟩ := enc_get h1 (by decide)
  clear h1
  rw [show epL 2 true 2 512 0 = [7, 5, 130, 2, 0, 2, 0] from by decide] at *
  go_wp2_with fail
  refine (encCf_any 25 1 1 0 true false 50 _ (by unfold U16; omega) (by unfold U8; omega) (by unfold U8; omega) (by unfold U8; omega) (by unfold U8; omega)).mono ?_
  intro e2 w2 h2
  obtain ⟨g2, rfl, hg2, hb2⟩ := enc_get h2 (by decide)
  clear h2
  rw [show cfL 25 1 1 0 true false 50 = [9, 2, 25, 0, 1, 1, 0, 192, 50] from by decide] at *
  go_wp2_with fail
  refine (encHb_any 4 10 100 _ 4 4 [false, true, false, false] _ (by unfold U8; omega) rfl (rd_lit rfl) (by omega)).mono ?_
  intro e3 w3 h3
  obtain ⟨g3, rfl, hg3, hb3⟩ := enc_get h3 (by decide)
  clear h3
  rw [show hbL 4 10 100 [false, true, false, false] = [9, 41, 4, 9, 0, 10, 100, 4, 255] from by decide] at *
  go_wp2_with fail
  refine (divide_any _ 5 5 [3, 36, 7, 2, 5] _ rfl (by omega) (by decide) (rd_lit rfl) (by intro z hz; simp at hz; omega)).mono ?_
  intro e4 w4 h4
  obtain ⟨hb4, h4⟩ := h4
  have hd : DivOk [3, 36, 7, 2, 5] [[3, 36, 7], [2, 5]] := ⟨fun p hp => by simp at hp; rcases hp with rfl | rfl <;> exact ⟨by decide, rfl⟩, rfl⟩
  have hcut := cut_ok hd (f := 5) (by decide)
  rcases h4 with ⟨h4, _⟩ | ⟨_, ps, A, vs, hps, rfl, hrd, hparts⟩ | ⟨_, h4, _⟩
  · exact absurd h4 (by decide)
  rotate_left
  · have := cut_bad h4 (f := 5) (by decide)
    rw [hcut] at this
    cases this
  have hps' := cut_ok hps (f := 5) (by decide)
  rw [hcut] at hps'
  obtain rfl : [[3, 36, 7], [2, 5]] = ps := by simpa using hps'
  obtain ⟨hlen, hp⟩ := hparts
  match vs, hlen, hrd, hp with
  | [v0, v1], _, hrd, hp =>
    obtain ⟨A0, rfl, hr0⟩ := (hp 0 v0 [3, 36, 7] rfl rfl).rd
    obtain ⟨A1, rfl, hr1⟩ := (hp 1 v1 [2, 5] rfl rfl).rd
    obtain ⟨gb, off, rfl, hgb, hc0⟩ := hrd.at_ (k := 0) (by simp)
    obtain ⟨gb', off', e', _, hc1⟩ := hrd.at_ (k := 1) (by simp)
    simp only [Option.some.injEq, Addr.mk.injEq, and_true] at e'
    obtain ⟨rfl, rfl⟩ := e'
    simp only [List.getElem_cons_zero, List.getElem_cons_succ, List.length_cons, List.length_nil, Nat.add_zero] at hc0 hc1
    have s0 := run_str (P := Try.prog) w4 23 9 5 Try.underlying23 Try.underlying5 Try.underlying9 _ A0 3 3 [3, 36, 7] rfl hr0
    have s1 := run_str (P := Try.prog) w4 23 9 5 Try.underlying23 Try.underlying5 Try.underlying9 _ A1 2 2 [2, 5] rfl hr1
    have t0 : (strOfNums [3, 36, 7]).toList = [3, 36, 7] := (str_toList _).trans (by decide)
    have t1 : (strOfNums [2, 5]).toList = [2, 5] := (str_toList _).trans (by decide)
    have t2 : (strOfNums [7, 5, 130, 2, 0, 2, 0]).toList = [7, 5, 130, 2, 0, 2, 0] := (str_toList _).trans (by decide)
    have t3 : (strOfNums [9, 2, 25, 0, 1, 1, 0, 192, 50]).toList = [9, 2, 25, 0, 1, 1, 0, 192, 50] := (str_toList _).trans (by decide)
    have t4 : (strOfNums [9, 41, 4, 9, 0, 10, 100, 4, 255]).toList = [9, 41, 4, 9, 0, 10, 100, 4, 255] := (str_toList _).trans (by decide)
    have z1 := hb1.size
    have z2 := hb2.size
    have z3 := hb3.size
    have z4 := hb4.size
    simp at z1 z3 z4
    have k3 : w4.heap[g3]? = some (.cells (u8s [9, 41, 4, 9, 0, 10, 100, 4, 255]).toArray 5 (0, 0)) := by
      have hl := (Array.getElem?_eq_some_iff.1 hg3).1
      rw [hb4.block g3 (by simp; omega), Below.heap_alloc _ _ _ hl]
      exact hg3
    have k2 : w4.heap[g2]? = some (.cells (u8s [9, 2, 25, 0, 1, 1, 0, 192, 50]).toArray 5 (0, 0)) := by
      have hl := (Array.getElem?_eq_some_iff.1 hg2).1
      rw [hb4.block g2 (by simp; omega), Below.heap_alloc _ _ _ (by omega), hb3.block g2 (by simp; omega), Below.heap_alloc _ _ _ hl]
      exact hg2
    have k1 : w4.heap[g1]? = some (.cells (u8s [7, 5, 130, 2, 0, 2, 0]).toArray 5 (0, 0)) := by
      have hl := (Array.getElem?_eq_some_iff.1 hg1).1
      rw [hb4.block g1 (by simp; omega), Below.heap_alloc _ _ _ (by omega), hb3.block g1 (by simp; omega), Below.heap_alloc _ _ _ (by omega), hb2.block g1 hl]
      exact hg1
    have c3 := fun c => str_new (P := Try.prog) (c := c) (n := 9) 23 9 5 Try.underlying23 Try.underlying5 Try.underlying9 _ k3 rfl rfl
    have c2 := fun c => str_new (P := Try.prog) (c := c) (n := 9) 23 9 5 Try.underlying23 Try.underlying5 Try.underlying9 _ k2 rfl rfl
    have c1 := fun c => str_new (P := Try.prog) (c := c) (n := 7) 23 9 5 Try.underlying23 Try.underlying5 Try.underlying9 _ k1 rfl rfl
    have hbw : Below w.heap.size w w4 := by
      have h1 : Below w.heap.size w w1 := ((Below.refl _ _).alloc (Nat.le_refl _) _).trans (hb1.mono (by simp))
      have h3 : Below w.heap.size w w3 := ((h1.trans (hb2.mono (by omega))).alloc (by omega) _).trans (hb3.mono (by simp; omega))
      exact (h3.alloc (by omega) _).trans (hb4.mono (by simp; omega))
    have kb : ∀ j, w4.cell? ⟨w.heap.size, j, none⟩ = (#[Value.int .u8 2, .bool true, .int .u8 2, .int .u16 512, .int .u8 0] : Array Value)[j]? := fun j => by
      rw [hb4.cell (p := ⟨w.heap.size, j, none⟩) (by simp; omega), World.cell?_alloc_past _ _ _ (by omega), hb3.cell (p := ⟨w.heap.size, j, none⟩) (by simp; omega), World.cell?_alloc_past _ _ _ (by omega),
        hb2.cell (p := ⟨w.heap.size, j, none⟩) (by simp; omega), hb1.cell (p := ⟨w.heap.size, j, none⟩) (by simp), World.cell?_alloc_at _ _ _ _ rfl]
    have kb0 := kb 0
    have kb1 := kb 1
    have kb2 := kb 2
    have kb3 := kb 3
    have kb4 := kb 4
    have zz : w.heap.size < w4.heap.size := by omega
    clear hp hd hcut hps hps' hr0 hr1 hrd k1 k2 k3 hg1 hg2 hg3 kb hb1 hb2 hb3 hb4 z1 z2 z3 z4
    go_wp2_with fail
    refine (fits_any 2 true 2 512 0 1 _ (by unfold IsEp; omega) (by omega)).mono ?_
    rintro e5 w5 ⟨rfl, hb5⟩
    have hc5 := bcell hb5
    have zz5 : w.heap.size < w5.heap.size := by have := hb5.size; omega
    rw [show fitsB 2 2 512 0 1 = false from by decide]
    go_wp2_with fail
    refine (fits_any 2 true 2 512 0 2 _ (by unfold IsEp; omega) (by omega)).mono ?_
    rintro e6 w6 ⟨rfl, hb6⟩
    rw [show fitsB 2 2 512 0 2 = true from by decide]
    go_wp2_with fail
    go_ret
    exact ⟨rfl, (hbw.trans (hb5.mono (by omega))).trans (hb6.mono (by omega))⟩

end Go.Proofs.Ytojifdijcanbpaa
