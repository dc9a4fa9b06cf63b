/- KeyboardsErrors returns true for every argument, and every argument reads behind the call as it read before. No condition. -/
import Derived.Test.YtionknddmlmhlaaPm1
import Derived.Test.YtionknddmlmhlaaPm2
import Derived.Test.YtionknddmlmhlaaPeD
import Derived.Test.YtionknddmlmhlaaLwKR
import Derived.Test.YtionknddmlmhlaaLB1
import Derived.Test.YtionknddmlmhlaaLB2
import Derived.Test.YtionknddmlmhlaaRows
import Derived.Lib.SmallJoins
namespace Go.Proofs.Ytionknddmlmhlaa.keyboardsErrors
open Go.ChangeShapes Go.WideShapes Go.ChangeAt Go.RowKit Go.Joins
set_option linter.unusedVariables false
theorem own : ownKnob Try.prog.godebug = none := by kernel_rfl
theorem laidOut : laidOutB Try.prog = true := by kernel_rfl
set_option maxRecDepth 100000 in
theorem lifted (os : Os) (started : os.Started) (H : Type) (enc : TypeId × Value → H) :
    ReturnsInHanded {} Try.checked os 6 .any (Rows.keyboardsErrorsSpec.pre6 enc Try.prog Try.f6 Rows.keyboardsErrorsRow.domain false) (Rows.keyboardsErrorsSpec.post enc Try.prog Try.f6 false true false false) := by
  refine returnsInHanded_of_change (C := Try.checked) own started (by kernel_rfl) Try.func6
    (ChangeSpec.witness6 (enc := enc) (C := Try.checked) false ⟨#[], #[.agg #[.bool false, .slice .none 0 0], .agg #[.bool false, .int .u8 0, .bool false, .int .u8 0], .slice .none 0 0], []⟩ 8 (by kernel_rfl) (by kernel_rfl) (by kernel_rfl) (by kernel_rfl)) ?_
  intro W base args ds gs before hval0 hW hcnd _
  have hval : ∀ (j : Nat) t v, Try.f6.params[j]? = some t → args[j]? = some v → Value.okWide Try.prog W .any base t v := hval0
  have hW' := hW
  obtain ⟨p, q, hA0, hV, rfl, hfz, hnd⟩ := hW
  have hA : DataW.TrodAll enc Try.prog W 0 (fun _ => true) true Try.f6.params.toList args.toList ds p := hA0
  rw [Try.params6] at hA hval
  obtain ⟨v0, vs0, d0, ds0, p0, q0, hargs, rfl, rfl, h0, r0⟩ := trodAll_cons hA
  obtain ⟨v1, vs1, d1, ds1, p1, q1, rfl, rfl, rfl, h1, r1⟩ := trodAll_cons r0
  obtain ⟨v2, vs2, d2, ds2, p2, q2, rfl, rfl, rfl, h2, r2⟩ := trodAll_cons r1
  obtain ⟨rfl, rfl, rfl⟩ := trodAll_nil r2
  obtain rfl : args = #[v0, v1, v2] := by cases args; simp_all
  obtain ⟨rfl, rfl⟩ := trodVars_none hV
  have k0 := h0
  have lt0 : ∀ x ∈ p0, x.block < W.heap.size := by obtain ⟨m, hm⟩ := k0; exact DataW.trod_lt m _ _ _ hm
  have k1 := h1
  have lt1 : ∀ x ∈ p1, x.block < W.heap.size := by obtain ⟨m, hm⟩ := k1; exact DataW.trod_lt m _ _ _ hm
  have k2 := h2
  have lt2 : ∀ x ∈ p2, x.block < W.heap.size := by obtain ⟨m, hm⟩ := k2; exact DataW.trod_lt m _ _ _ hm
  obtain ⟨x0, R0⟩ := e_b ty74 (by rfl) (hval 0 74 v0 rfl rfl) h0
  obtain ⟨x1, R1⟩ := e_b ty23 (by rfl) (hval 1 23 v1 rfl rfl) h1
  obtain ⟨x2, R2⟩ := e_b ty24 (by rfl) (hval 2 24 v2 rfl rfl) h2
  clear hA0 hval0
  have law : p6 2000 x0 x1 x2 = some true := p6_law R0.fine R1.fine R2.fine
  refine (c6 (fun _ => True) 2000 W x0 v0 R0 x1 v1 R1 x2 v2 R2 law).mono fun e W' he => ?_
  obtain ⟨v, rfl, hv, bel⟩ := he
  obtain rfl := RepV.bool hv
  exact ⟨_, rfl, _, _, _, [], _, [], hW', trodAll_mk1 (shut_bool Try.underlying4 _), (trodAll_cons_mk (Below.trod laidOut (by kernel_rfl) (of_decide_eq_true (by kernel_rfl)) k0 bel lt0) (trodAll_cons_mk (Below.trod laidOut (by kernel_rfl) (of_decide_eq_true (by kernel_rfl)) k1 bel lt1) (trodAll_cons_mk (Below.trod laidOut (by kernel_rfl) (of_decide_eq_true (by kernel_rfl)) k2 bel lt2) trodAll_mk0))), rfl, bel.frame _, fun h => by cases h⟩
theorem over : Rows.keyboardsErrorsRow.holds Try.pinned (OpenSpec.ofChange Rows.keyboardsErrorsSpec) :=
  OpenClaim.holds_of_wide 6 Try.f6 rfl rfl rfl rfl rfl rfl rfl ⟨rfl, rfl, rfl, rfl, rfl⟩ rfl rfl rfl rfl rfl (by kernel_rfl) Try.func6 (by kernel_rfl)
    (of_decide_eq_true (by kernel_rfl)) (by unfold Func.isWrapper; first | (rw [if_pos (by decide +kernel)]; kernel_rfl) | (rw [if_neg (by decide +kernel)]; exact ⟨rfl, rfl⟩))
    (fun os started H enc _ => lifted os started H enc)
theorem proved : Rows.KeyboardsErrorsSaid := over
end Go.Proofs.Ytionknddmlmhlaa.keyboardsErrors
