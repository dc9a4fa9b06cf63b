/- The walks of decode at interfaces and of DecodeInterface. -/
import Derived.Test.YtojifdijcanbpaaDecIf
import Derived.Test.YtojifdijcanbpaaSet
set_option linter.unusedSimpArgs false
set_option linter.unusedVariables false
namespace Go.Proofs.Ytojifdijcanbpaa
open Go.RowKit

def lstIf (l : List Int) : List Int := ifL (l.getD 2 0) (l.getD 3 0) (l.getD 4 0) (l.getD 5 0) (l.getD 6 0) (l.getD 7 0) (l.getD 8 0)
abbrev noIf : Value := ifV 0 0 0 0 0 0 0
def DecPost (size : Nat) (none : Value) (rd : Value) (back l : List Int) (w : World) (e : Ending) (w' : World) : Prop := Below w.heap.size w w' ∧
  ((l.length ≠ size ∧ e = .returned (.tuple #[none, .int .i64 5])) ∨ (l.length = size ∧ back = l ∧ e = .returned (.tuple #[rd, .int .i64 0])) ∨ (l.length = size ∧ back ≠ l ∧ e = .returned (.tuple #[none, .int .i64 4])))

theorem open_if {l : List Int} (hB : Byt l) : ∃ x2 x3 x4 x5 x6 x7 x8, U8 x2 ∧ U8 x3 ∧ U8 x4 ∧ U8 x5 ∧ U8 x6 ∧ U8 x7 ∧ U8 x8 ∧ Hid (rdIf l = ifV x2 x3 x4 x5 x6 x7 x8) ∧ Hid (lstIf l = ifL x2 x3 x4 x5 x6 x7 x8) :=
  ⟨_, _, _, _, _, _, _, hB.get 2, hB.get 3, hB.get 4, hB.get 5, hB.get 6, hB.get 7, hB.get 8, Lib.hid rfl, Lib.hid rfl⟩

theorem rd_of_block {w : World} {g : Nat} {l : List Int} {e : TypeId} (h : w.heap[g]? = some (.cells (u8s l).toArray e (0, 0))) : Rd w w.heap.size (some ⟨g, 0, none⟩) (u8s l) :=
  .inr ⟨g, 0, rfl, (Array.getElem?_eq_some_iff.1 h).1, fun j v hj => by
    have hc : w.cell? ⟨g, 0 + j, none⟩ = (u8s l).toArray[0 + j]? := cell_of_row w g (0 + j) _ e (0, 0) h
    rw [hc, Nat.zero_add]
    simpa using hj⟩
theorem len9 {x2 x3 x4 x5 x6 x7 x8 : Int} : (ifL x2 x3 x4 x5 x6 x7 x8).length ≤ 9 := by unfold ifL; split <;> simp

theorem ret_if {fn : Func} {p u : Nat} {R : Ending → World → Prop} {a : Act} {w W0 : World} {g : Nat} {x2 x3 x4 x5 x6 x7 x8 : Int} {E : Value} {cur : Array Value}
    (hf : fn.results = #[.cell p 73, .tmp u]) (hp : a.tmps.getD p undef = .pointer (some ⟨g, 0, none⟩)) (hu : a.tmps.getD u undef = E) (hd : a.defers = [])
    (hw : w = setAll W0 g 0 [.int .u8 x2, .int .u8 x3, .int .u8 x4, .int .u8 x5, .int .u8 x6, .int .u8 x7, .int .u8 x8]) (hb : W0.heap[g]? = some (.cells cur 73 (0, 0))) (hc : cur.size = 7)
    (hR : R (.returned (.tuple #[ifV x2 x3 x4 x5 x6 x7 x8, E])) w) : bodyPost Try.prog fn R .ret a w := by
  have k := setAll_cell 73 g [.int .u8 x2, .int .u8 x3, .int .u8 x4, .int .u8 x5, .int .u8 x6, .int .u8 x7, .int .u8 x8] W0 cur hb hc
  rw [← hw] at k
  have k0 : w.cell? ⟨g, 0, none⟩ = some (.int .u8 x2) := k 0
  have k1 : w.cell? ⟨g, 1, none⟩ = some (.int .u8 x3) := k 1
  have k2 : w.cell? ⟨g, 2, none⟩ = some (.int .u8 x4) := k 2
  have k3 : w.cell? ⟨g, 3, none⟩ = some (.int .u8 x5) := k 3
  have k4 : w.cell? ⟨g, 4, none⟩ = some (.int .u8 x6) := k 4
  have k5 : w.cell? ⟨g, 5, none⟩ = some (.int .u8 x7) := k 5
  have k6 : w.cell? ⟨g, 6, none⟩ = some (.int .u8 x8) := k 6
  refine bodyPost_ret (v := .tuple #[ifV x2 x3 x4 x5 x6 x7 x8, E]) ?_ hd hR
  rw [results_cell_tmp hf, hp, hu]
  clear hw hb k
  simp [go_sem, k0, k1, k2, k3, k4, k5, k6]

set_option maxHeartbeats 4000000 in
set_option maxRecDepth 100000 in
theorem decIf_any (A : Option Addr) (n c : Nat) (l : List Int) (w : World) (hl : l.length = n) (hr : Rd w w.heap.size A (u8s l)) (hB : Byt l) (hn : n ≤ 1000000) :
    Calls Try.prog 51 #[.slice A n c, .int .i64 9, .func (.func 52) #[] #[], .func (.func 30) #[] #[]] w (DecPost 9 noIf (rdIf l) (lstIf l) l w) := by
  have HL := Lib.hid hl
  clear hl
  by_cases h9 : n = 9
  · subst h9
    obtain ⟨x2, x3, x4, x5, x6, x7, x8, u2, u3, u4, u5, u6, u7, u8, HR, HB⟩ := open_if hB
    have HU := Lib.hid (show U8 x2 ∧ U8 x3 ∧ U8 x4 ∧ U8 x5 ∧ U8 x6 ∧ U8 x7 ∧ U8 x8 from ⟨u2, u3, u4, u5, u6, u7, u8⟩)
    clear u2 u3 u4 u5 u6 u7 u8
    go_enter Try.func51, Try.ntmps51
    go_wp2_with fail
    refine (readIf_any _ _ l _ HL.out ((hr.below (((Below.refl _ _).alloc (Nat.le_refl _) _).alloc (by simp) _)).more (by simp; omega))).mono ?_
    rintro e w1 ⟨he, hb1⟩
    rw [HR.out] at he
    subst he
    have hc1 := bcell hb1
    have hf1 := bfroz hb1
    have hz0 : w.heap.size < w1.heap.size := by have := hb1.size; simp at this; omega
    have hz1 : w.heap.size + 1 < w1.heap.size := by have := hb1.size; simp at this; omega
    have hr1 : Rd w1 w.heap.size A (u8s l) := hr.below ((((Below.refl _ _).alloc (Nat.le_refl _) _).alloc (by simp) _).trans (hb1.mono (by simp; omega)))
    have hbw : Below w.heap.size w w1 := (((Below.refl _ _).alloc (Nat.le_refl _) _).alloc (by simp) _).trans (hb1.mono (by simp; omega))
    have Hbw := Lib.hid hbw
    have hblk1 : w1.heap[w.heap.size]? = some (.cells #[.int .u8 0, .int .u8 0, .int .u8 0, .int .u8 0, .int .u8 0, .int .u8 0, .int .u8 0] 73 (0, 0)) := by
      rw [hb1.block _ (by simp; omega), Below.heap_alloc _ _ _ (by simp)]
      exact heap_alloc_new _ _
    have hblk2 : ∀ W' : World, (∀ {o : Obj}, Below (w1.alloc o).heap.size (w1.alloc o) W' → W'.heap[w.heap.size]? = some (.cells #[.int .u8 0, .int .u8 0, .int .u8 0, .int .u8 0, .int .u8 0, .int .u8 0, .int .u8 0] 73 (0, 0))) := fun W' o h => by
      rw [h.block _ (by simp; omega), Below.heap_alloc _ _ _ hz0]
      exact hblk1
    clear hbw hblk1
    go_wp2_with fail
    obtain ⟨u2, u3, u4, u5, u6, u7, u8⟩ := HU.out
    refine (encIf_any _ _ _ _ _ _ _ _ u2 u3 u4 u5 u6 u7 u8).mono ?_
    clear u2 u3 u4 u5 u6 u7 u8
    intro e w2 h2
    rcases h2 with ⟨hnil, rfl, hb2⟩ | ⟨hne, g, rfl, hg, hb2⟩
    · have hc2 := bcell hb2
      have hf2 := bfroz hb2
      have hz2 : w.heap.size < w2.heap.size := by have := hb2.size; simp at this; omega
      have hz3 : w.heap.size + 1 < w2.heap.size := by have := hb2.size; simp at this; omega
      have hz4 : w1.heap.size < w2.heap.size := by have := hb2.size; simp at this; omega
      have Hnil := Lib.hid hnil
      clear hnil
      go_wp2_with fail
      refine ret_if (W0 := w2) Try.results51 rfl rfl rfl rfl (hblk2 _ hb2) rfl ⟨?_, .inr (.inr ⟨HL.out, ?_, rfl⟩)⟩
      · have hz := Hbw.out.size
        repeat (refine Below.setCell ?_ (by simp) _)
        exact (Hbw.out.alloc hz _).trans (hb2.mono (by simp; omega))
      · rw [HB.out, Hnil.out]
        intro h
        have := HL.out
        rw [← h] at this
        simp at this
    · have hc2 := bcell hb2
      have hf2 := bfroz hb2
      have hz2 : w.heap.size < w2.heap.size := by have := hb2.size; simp at this; omega
      have hz3 : w.heap.size + 1 < w2.heap.size := by have := hb2.size; simp at this; omega
      have hz4 : w1.heap.size < w2.heap.size := by have := hb2.size; simp at this; omega
      have hr2 : Rd w2 w.heap.size A (u8s l) := (hr1.below ((Below.refl _ _).alloc Hbw.out.size _)).below (hb2.mono (by have := Hbw.out.size; simp; omega))
      have hL9 : (ifL x2 x3 x4 x5 x6 x7 x8).length ≤ 9 := len9
      have Hg := Lib.hid hg
      have Hne := Lib.hid hne
      clear hg hne
      go_wp2_with fail
      refine (equal_any _ _ _ _ _ _ (ifL x2 x3 x4 x5 x6 x7 x8) l _ rfl HL.out (rd_of_block Hg.out) (hr2.more (by omega)) (by omega) hn).mono ?_
      rintro e w3 ⟨rfl, hb3⟩
      have hc3 := bcell hb3
      have hf3 := bfroz hb3
      have hz5 : w.heap.size < w3.heap.size := by have := hb3.size; omega
      have hz6 : w.heap.size + 1 < w3.heap.size := by have := hb3.size; omega
      have hz7 : w1.heap.size < w3.heap.size := by have := hb3.size; omega
      have hbl : Below w.heap.size w w3 := ((Hbw.out.alloc Hbw.out.size _).trans (hb2.mono (by have := Hbw.out.size; simp; omega))).trans (hb3.mono (by omega))
      have Hbl := Lib.hid hbl
      clear hbl
      cases heq : eqB (ifL x2 x3 x4 x5 x6 x7 x8) l
      · have Heq := Lib.hid heq
        clear heq
        go_wp2_with fail
        refine ret_if (W0 := w3) Try.results51 rfl rfl rfl rfl (by rw [hb3.block _ (by omega)]; exact hblk2 _ hb2) rfl ⟨?_, .inr (.inr ⟨HL.out, ?_, rfl⟩)⟩
        · repeat (refine Below.setCell ?_ (by simp) _)
          exact Hbl.out
        · rw [HB.out]
          have := Heq.out
          simpa [eqB] using this
      · have Heq := Lib.hid heq
        clear heq
        go_wp2_with fail
        refine ret_if (W0 := w3) Try.results51 rfl rfl rfl rfl (by rw [hb3.block _ (by omega)]; exact hblk2 _ hb2) rfl (E := .int .i64 0) ⟨?_, .inr (.inl ⟨HL.out, ?_, by rw [HR.out]⟩)⟩
        · repeat (refine Below.setCell ?_ (by simp) _)
          exact Hbl.out
        · rw [HB.out]
          have := Heq.out
          simpa [eqB] using this
  · have hne : ((n : Int) != 9) = true := by simp; omega
    go_enter Try.func51, Try.ntmps51
    go_wp2_with fail
    refine bodyPost_ret (v := .tuple #[noIf, .int .i64 5]) (by simp [results, Try.results51, go_sem]) rfl ⟨?_, .inl ⟨by rw [HL.out]; exact h9, rfl⟩⟩
    repeat (refine Below.setCell ?_ (by simp) _)
    exact ((Below.refl _ _).alloc (Nat.le_refl _) _).alloc (by simp) _

set_option maxHeartbeats 1000000 in
set_option maxRecDepth 100000 in
theorem decodeIf_any (A : Option Addr) (n c : Nat) (l : List Int) (w : World) (hl : l.length = n) (hr : Rd w w.heap.size A (u8s l)) (hB : Byt l) (hn : n ≤ 1000000) :
    Calls Try.prog 32 #[.slice A n c] w (DecPost 9 noIf (rdIf l) (lstIf l) l w) := by
  have HL := Lib.hid hl
  clear hl
  go_enter Try.func32, Try.ntmps32
  go_wp2_with fail
  refine (decIf_any _ _ _ l _ HL.out ((hr.below ((Below.refl _ _).alloc (Nat.le_refl _) _)).more (by simp)) hB hn).mono ?_
  obtain ⟨x2, x3, x4, x5, x6, x7, x8, _, _, _, _, _, _, _, HR, HB⟩ := open_if hB
  rintro e w1 ⟨hb1, h⟩
  have hblk1 : w1.heap[w.heap.size]? = some (.cells #[.int .u8 0, .int .u8 0, .int .u8 0, .int .u8 0, .int .u8 0, .int .u8 0, .int .u8 0] 73 (0, 0)) := by
    rw [hb1.block _ (by simp)]
    exact heap_alloc_new _ _
  have Hblk := Lib.hid hblk1
  have hbw : Below w.heap.size w w1 := ((Below.refl _ _).alloc (Nat.le_refl _) _).trans (hb1.mono (by simp))
  clear hblk1
  have hz0 : w.heap.size < w1.heap.size := by have := hb1.size; simp at this; omega
  have hc1 := bcell hb1
  have hf1 := bfroz hb1
  rcases h with ⟨h1, rfl⟩ | ⟨h1, h2, rfl⟩ | ⟨h1, h2, rfl⟩
  · have H1 := Lib.hid h1
    clear h1
    go_wp2_with fail
    refine ret_if (W0 := w1) Try.results32 rfl rfl rfl rfl Hblk.out rfl (E := .int .i64 5) ⟨?_, .inl ⟨H1.out, rfl⟩⟩
    repeat (refine Below.setCell ?_ (by simp) _)
    exact hbw
  · rw [HR.out]
    have H1 := Lib.hid h1
    have H2 := Lib.hid h2
    clear h1 h2
    go_wp2_with fail
    refine ret_if (W0 := w1) Try.results32 rfl rfl rfl rfl Hblk.out rfl (E := .int .i64 0) ⟨?_, .inr (.inl ⟨H1.out, H2.out, by rw [HR.out]⟩)⟩
    repeat (refine Below.setCell ?_ (by simp) _)
    exact hbw
  · have H1 := Lib.hid h1
    have H2 := Lib.hid h2
    clear h1 h2
    go_wp2_with fail
    refine ret_if (W0 := w1) Try.results32 rfl rfl rfl rfl Hblk.out rfl (E := .int .i64 4) ⟨?_, .inr (.inr ⟨H1.out, H2.out, rfl⟩)⟩
    repeat (refine Below.setCell ?_ (by simp) _)
    exact hbw
end Go.Proofs.Ytojifdijcanbpaa
