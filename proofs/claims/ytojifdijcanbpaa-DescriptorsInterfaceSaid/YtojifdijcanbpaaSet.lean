/- A struct that is stored cell by cell into a block of the call's own. Plain theorems. -/
import Derived.Test.YtojifdijcanbpaaCommon
import Derived.Laws.ResultCell
set_option linter.unusedVariables false
namespace Go.Proofs.Ytojifdijcanbpaa
open Go.RowKit

def setAll (w : World) (g : Nat) : Nat → List Value → World
  | _, [] => w
  | k, v :: vs => setAll (w.setCell ⟨g, k, none⟩ v) g (k + 1) vs
theorem setAll_block (e : TypeId) (g : Nat) : ∀ (vs : List Value) (k : Nat) (w : World) (cur : Array Value), w.heap[g]? = some (.cells cur e (0, 0)) → cur.size = k + vs.length →
    (setAll w g k vs).heap[g]? = some (.cells (cur.toList.take k ++ vs).toArray e (0, 0))
  | [], k, w, cur, h, hs => by
    simp only [setAll, List.append_nil]
    rw [List.take_of_length_le (by simp at hs; simp [hs])]
    simpa using h
  | v :: vs, k, w, cur, h, hs => by
    simp only [setAll]
    rw [setAll_block e g vs (k + 1) _ (cur.setIfInBounds k v) (heap_setCell_same w g k cur e v h) (by simp at hs ⊢; omega)]
    congr 2
    simp only [List.length_cons] at hs
    rw [Array.toList_setIfInBounds, List.take_add_one, List.getElem?_set_self (by simp; omega)]
    simp [List.take_set]
    rw [List.set_eq_of_length_le (by simp; omega)]
theorem setAll_below {B : Nat} {a : World} (g : Nat) (hg : B ≤ g) : ∀ (vs : List Value) (k : Nat) (w : World), Below B a w → Below B a (setAll w g k vs)
  | [], _, _, h => h
  | v :: vs, k, w, h => setAll_below g hg vs (k + 1) _ (h.setCell hg v)
theorem setAll_cell (e : TypeId) (g : Nat) (vs : List Value) (w : World) (cur : Array Value) (h : w.heap[g]? = some (.cells cur e (0, 0))) (hs : cur.size = vs.length) : ∀ j, (setAll w g 0 vs).cell? ⟨g, j, none⟩ = vs[j]? := fun j => by
  have := setAll_block e g vs 0 w cur h (by omega)
  rw [cell_of_row _ g j _ e (0, 0) this]
  simp
end Go.Proofs.Ytojifdijcanbpaa
