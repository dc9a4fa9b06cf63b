/- The walks of DecodeInterface and what it calls. -/
import Derived.Test.YtojifdijcanbpaaEq
import Derived.Test.YtojifdijcanbpaaEncIf
set_option linter.unusedSimpArgs false
set_option linter.unusedVariables false
namespace Go.Proofs.Ytojifdijcanbpaa
open Go.RowKit

def rdIf (l : List Int) : Value := ifV (l.getD 2 0) (l.getD 3 0) (l.getD 4 0) (l.getD 5 0) (l.getD 6 0) (l.getD 7 0) (l.getD 8 0)
set_option maxHeartbeats 1000000 in
set_option maxRecDepth 100000 in
theorem readIf_any (A : Option Addr) (c : Nat) (l : List Int) (w : World) (hl : l.length = 9) (hr : Rd w w.heap.size A (u8s l)) :
    Calls Try.prog 52 #[.slice A 9 c] w fun e w' => e = .returned (rdIf l) ∧ Below w.heap.size w w' := by
  obtain ⟨g, off, rfl, hg, _⟩ := u8_at hr (k := 0) (by omega)
  have hc : ∀ k, k < 9 → (w.alloc (.cells #[.int .u8 0, .int .u8 0, .int .u8 0, .int .u8 0, .int .u8 0, .int .u8 0, .int .u8 0] 73)).cell? ⟨g, off + k, none⟩ = some (.int .u8 (l.getD k 0)) := fun k hk => by
    obtain ⟨b, o, e, _, h⟩ := u8_at hr (k := k) (by omega)
    simp only [Option.some.injEq, Addr.mk.injEq, and_true] at e
    obtain ⟨rfl, rfl⟩ := e
    rw [World.cell?_alloc_past _ _ _ hg]
    exact h
  unfold rdIf
  have h2 := hc 2 (by omega)
  have h3 := hc 3 (by omega)
  have h4 := hc 4 (by omega)
  have h5 := hc 5 (by omega)
  have h6 := hc 6 (by omega)
  have h7 := hc 7 (by omega)
  have h8 := hc 8 (by omega)
  clear hc hr
  generalize l.getD 2 0 = x2 at h2 ⊢
  generalize l.getD 3 0 = x3 at h3 ⊢
  generalize l.getD 4 0 = x4 at h4 ⊢
  generalize l.getD 5 0 = x5 at h5 ⊢
  generalize l.getD 6 0 = x6 at h6 ⊢
  generalize l.getD 7 0 = x7 at h7 ⊢
  generalize l.getD 8 0 = x8 at h8 ⊢
  go_enter Try.func52, Try.ntmps52
  go_wp2_with fail
  go_region
  all_goals go_wp2
  all_goals
    refine bodyPost_ret (v := ifV x2 x3 x4 x5 x6 x7 x8) (by simp [results, Try.results52, go_sem]) rfl ⟨rfl, ?_⟩
    exact ((Below.refl _ _).drew).alloc (Nat.le_refl _) _

end Go.Proofs.Ytojifdijcanbpaa
