/- Arguments opened to cells: structs by value of any number of one-cell fields. Plain theorems, no condition. -/
import Derived.Test.YtojifdijcanbpaaCommon
import Derived.WalkKit
import Derived.ProofKit
import Derived.OpenShut
import Derived.ChangeOld
import Derived.Lib.SmallJoins
import Derived.Deep.Slices
import Derived.Deep.Fields
namespace Go.Proofs.Ytojifdijcanbpaa
open Go.ChangeShapes Go.WideShapes Go.ChangeAt Go.RowKit Go.Deep

theorem list2 {α : Type} {l : List α} (h : l.length = 2) : ∃ a b, l = [a, b] := by
  match l, h with | [a, b], _ => exact ⟨a, b, rfl⟩
theorem list3 {α : Type} {l : List α} (h : l.length = 3) : ∃ a b c, l = [a, b, c] := by
  match l, h with | [a, b, c], _ => exact ⟨a, b, c, rfl⟩
theorem list4 {α : Type} {l : List α} (h : l.length = 4) : ∃ a b c d, l = [a, b, c, d] := by
  match l, h with | [a, b, c, d], _ => exact ⟨a, b, c, d, rfl⟩
theorem list5 {α : Type} {l : List α} (h : l.length = 5) : ∃ a b c d e, l = [a, b, c, d, e] := by
  match l, h with | [a, b, c, d, e], _ => exact ⟨a, b, c, d, e, rfl⟩
theorem list6 {α : Type} {l : List α} (h : l.length = 6) : ∃ a b c d e f, l = [a, b, c, d, e, f] := by
  match l, h with | [a, b, c, d, e, f], _ => exact ⟨a, b, c, d, e, f, rfl⟩
theorem list7 {α : Type} {l : List α} (h : l.length = 7) : ∃ a b c d e f g, l = [a, b, c, d, e, f, g] := by
  match l, h with | [a, b, c, d, e, f, g], _ => exact ⟨a, b, c, d, e, f, g, rfl⟩
theorem list12 {α : Type} {l : List α} (h : l.length = 12) : ∃ a b c d e f g i j k m n, l = [a, b, c, d, e, f, g, i, j, k, m, n] := by
  match l, h with | [a, b, c, d, e, f, g, i, j, k, m, n], _ => exact ⟨a, b, c, d, e, f, g, i, j, k, m, n, rfl⟩

section
variable {H : Type} {enc : TypeId × Value → H} {P : Program} {w : World} {base : Nat} {spare : Nat → Bool} {held : Bool}
/-- The cells of a struct that reads, and each field's own reading. -/
theorem fields_of {t : TypeId} {fs : Array Field} {n : Nat} {cs : List Value} {x : DataW H × List MemPlace} (hs : P.underlying t = some (.struct fs)) (hone : oneCellFields P fs = true) (hC : P.cellsOf t = fs.size)
    (h : DataW.trod enc P w base spare held n t cs = some x) :
    cs.length = fs.size ∧ ∃ m, ∀ (j : Nat) (f : Field) (c : Value), fs[j]? = some f → cs[j]? = some c → ∃ y, DataW.trod enc P w base spare held m f.type [c] = some y := by
  obtain ⟨xs, m, _, _, hlen, hxl, hg⟩ := DataW.trod_struct hs h
  refine ⟨hlen.trans hC, m, fun j f c hj hc => ?_⟩
  obtain ⟨ho, hk⟩ := hone_of hone j f hj
  have h1 := hg j f hj
  rw [ho, hk] at h1
  have hjl : j < cs.length := (List.getElem?_eq_some_iff.1 hc).1
  have h2 : (cs.drop j).take 1 = [c] := by
    rw [List.drop_eq_getElem_cons hjl]
    have : cs[j] = c := by rw [List.getElem?_eq_getElem hjl] at hc; exact Option.some.inj hc
    rw [this]
    rfl
  rw [h2] at h1
  have hjx : j < xs.length := by rw [hxl]; exact (Array.getElem?_eq_some_iff.1 hj).1
  exact ⟨xs[j], h1.trans (List.getElem?_eq_getElem hjx)⟩
/-- A struct by value. -/
theorem open_fields {r : Reach} {b0 : Nat} {t : TypeId} {fs : Array Field} {v : Value} {d : DataW H} {p : List MemPlace} (hs : P.underlying t = some (.struct fs)) (hone : oneCellFields P fs = true) (hC : P.cellsOf t = fs.size)
    (hv : Value.okWide P w r b0 t v) (h : DataW.Trod enc P w base spare held t v d p) :
    ∃ cs : List Value, v = .agg cs.toArray ∧ cs.length = fs.size ∧ ∃ m, ∀ (j : Nat) (f : Field) (c : Value), fs[j]? = some f → cs[j]? = some c → ∃ y, DataW.trod enc P w base spare held m f.type [c] = some y := by
  obtain ⟨cs, rfl, _⟩ := okWide_struct hs hv
  obtain ⟨fuel, hf⟩ := h
  obtain ⟨hl, hm⟩ := fields_of hs hone hC hf
  exact ⟨cs.toList, by simp, hl, hm⟩
theorem get_u8 {t : TypeId} {m : Nat} {c : Value} (ht : P.underlying t = some (.int .u8)) (h : ∃ y, DataW.trod enc P w base spare held m t [c] = some y) : ∃ x : Int, c = .int .u8 x ∧ 0 ≤ x ∧ x ≤ 255 := by
  obtain ⟨y, hy⟩ := h
  obtain ⟨x, hc, _, hw⟩ := DataW.trod_int ht hy
  simp only [List.cons.injEq, and_true] at hc
  have : 0 ≤ x ∧ x ≤ 255 := by simpa [Lit.wf, IntKind.min, IntKind.max, IntKind.signed, IntKind.bits] using hw
  exact ⟨x, hc, this⟩
theorem get_u16 {t : TypeId} {m : Nat} {c : Value} (ht : P.underlying t = some (.int .u16)) (h : ∃ y, DataW.trod enc P w base spare held m t [c] = some y) : ∃ x : Int, c = .int .u16 x ∧ 0 ≤ x ∧ x ≤ 65535 := by
  obtain ⟨y, hy⟩ := h
  obtain ⟨x, hc, _, hw⟩ := DataW.trod_int ht hy
  simp only [List.cons.injEq, and_true] at hc
  have : 0 ≤ x ∧ x ≤ 65535 := by simpa [Lit.wf, IntKind.min, IntKind.max, IntKind.signed, IntKind.bits] using hw
  exact ⟨x, hc, this⟩
theorem get_i64 {t : TypeId} {m : Nat} {c : Value} (ht : P.underlying t = some (.int .i64)) (h : ∃ y, DataW.trod enc P w base spare held m t [c] = some y) : ∃ x : Int, c = .int .i64 x ∧ -9223372036854775808 ≤ x ∧ x ≤ 9223372036854775807 := by
  obtain ⟨y, hy⟩ := h
  obtain ⟨x, hc, _, hw⟩ := DataW.trod_int ht hy
  simp only [List.cons.injEq, and_true] at hc
  have : -9223372036854775808 ≤ x ∧ x ≤ 9223372036854775807 := by simpa [Lit.wf, IntKind.min, IntKind.max, IntKind.signed, IntKind.bits] using hw
  exact ⟨x, hc, this⟩
theorem get_bool {t : TypeId} {m : Nat} {c : Value} (ht : P.underlying t = some .bool) (h : ∃ y, DataW.trod enc P w base spare held m t [c] = some y) : ∃ x : Bool, c = .bool x := by
  obtain ⟨y, hy⟩ := h
  obtain ⟨x, hc, _⟩ := DataW.trod_bool ht hy
  simp only [List.cons.injEq, and_true] at hc
  exact ⟨x, hc⟩
/-- A slice of bytes that came in: its first numbers, where they lie, and that they fit. -/
theorem open_bytes {W : World} {r : Reach} {b0 : Nat} {t e : TypeId} {v : Value} {d : DataW H} {p : List MemPlace} (ht : P.underlying t = some (.slice e)) (he : P.underlying e = some (.int .u8)) (hc : P.cellsOf e = 1)
    (hv : Value.okWide P W r b0 t v) (h : DataW.Trod enc P W base spare held t v d p) :
    ∃ (A : Option Addr) (n c : Nat) (l : List Int), v = .slice A n c ∧ l.length = n ∧ Rd W W.heap.size A (u8s l) ∧ Byt l ∧ n ≤ 9223372036854775807 := by
  obtain ⟨A, n, c, rfl⟩ := okWide_slice ht hv
  obtain ⟨fuel, hf⟩ := h
  rcases open_ints ht he hc hf with ⟨hcs, _⟩ | ⟨x, l, c', zs, hcs, _, hl, hm, hz, _, hcell, hwz⟩
  · simp [Value.cells] at hcs
    obtain ⟨rfl, rfl, rfl⟩ := hcs
    exact ⟨none, 0, 0, [], rfl, rfl, Rd.nil, Byt.nil, by omega⟩
  · simp [Value.cells] at hcs
    obtain ⟨rfl, rfl, rfl⟩ := hcs
    have hz' : n ≤ zs.length := by rw [hz]; split <;> omega
    refine ⟨_, n, c, zs.take n, rfl, by rw [List.length_take]; omega, ?_, fun z hzz => ?_, by unfold maxLen at hm; omega⟩
    · rcases Nat.eq_zero_or_pos n with h0 | h0
      · subst h0
        exact .inl rfl
      · obtain ⟨b, off, spot⟩ := x
        have h1 := hcell 0 (by omega)
        have hspot : spot = none := by simpa [Addr.add] using World.cell?_spot h1
        subst hspot
        refine .inr ⟨b, off, rfl, ?_, fun j v hj => ?_⟩
        · rw [Addr.add_lit] at h1
          exact World.block_lt_of_cell? W _ h1
        · have hjn : j < n := by
            have := (List.getElem?_eq_some_iff.1 hj).1
            simp at this
            omega
          have h2 := hcell j (by omega)
          rw [Addr.add_lit] at h2
          rw [h2]
          simp only [u8s, List.getElem?_map, List.getElem?_take, if_pos hjn] at hj
          simp [List.getElem?_eq_getElem (show j < zs.length by omega)] at hj
          rw [← hj]
          simp [List.getD, show j < zs.length by omega]
    · have := hwz z (List.mem_of_mem_take hzz)
      simpa [Lit.wf, IntKind.min, IntKind.max, IntKind.signed, IntKind.bits] using this
end
end Go.Proofs.Ytojifdijcanbpaa
