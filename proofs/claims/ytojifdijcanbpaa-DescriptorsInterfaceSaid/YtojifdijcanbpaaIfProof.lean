/- DescriptorsInterface returns true for every argument, and every argument reads behind the call as it read before. No condition. -/
import Derived.Test.YtojifdijcanbpaaLawIf
import Derived.Test.YtojifdijcanbpaaOpen
namespace Go.Proofs.Ytojifdijcanbpaa.descriptorsInterface
open Go.ChangeShapes Go.WideShapes Go.ChangeAt Go.RowKit Go.Joins
set_option linter.unusedVariables false

theorem own : ownKnob Try.prog.godebug = none := by kernel_rfl
theorem laidOut : laidOutB Try.prog = true := by kernel_rfl

set_option maxRecDepth 100000 in
theorem lifted (os : Os) (started : os.Started) (H : Type) (enc : TypeId × Value → H) :
    ReturnsInHanded {} Try.checked os 9 .any (Rows.descriptorsInterfaceSpec.pre6 enc Try.prog Try.f9 Rows.descriptorsInterfaceRow.domain false) (Rows.descriptorsInterfaceSpec.post enc Try.prog Try.f9 false true false false) := by
  refine returnsInHanded_of_change (C := Try.checked) own started (by kernel_rfl) Try.func9
    (ChangeSpec.witness6 (enc := enc) (C := Try.checked) false ⟨#[], #[.agg #[.int .u8 0, .int .u8 0, .int .u8 0, .int .u8 0, .int .u8 0, .int .u8 0, .int .u8 0], .slice none 0 0], []⟩ 8 (by kernel_rfl) (by kernel_rfl) (by kernel_rfl) (by kernel_rfl)) ?_
  intro W base args ds gs before hval0 hW hcnd _
  have hval : ∀ (j : Nat) t v, Try.f9.params[j]? = some t → args[j]? = some v → Value.okWide Try.prog W .any base t v := hval0
  have hW' := hW
  obtain ⟨p, q, hA0, hV, rfl, hfz, hnd⟩ := hW
  have hA : DataW.TrodAll enc Try.prog W 0 (fun _ => true) true Try.f9.params.toList args.toList ds p := hA0
  rw [Try.params9] at hA hval
  obtain ⟨v0, vs0, d0, ds0, p0, q0, hargs, rfl, rfl, h0, r0⟩ := trodAll_cons hA
  obtain ⟨v1, vs1, d1, ds1, p1, q1, rfl, rfl, rfl, h1, r1⟩ := trodAll_cons r0
  obtain ⟨rfl, rfl, rfl⟩ := trodAll_nil r1
  obtain rfl : args = #[v0, v1] := by cases args; simp_all
  obtain ⟨rfl, rfl⟩ := trodVars_none hV
  have k0 := h0
  have lt0 : ∀ x ∈ p0, x.block < W.heap.size := by obtain ⟨m, hm⟩ := k0; exact DataW.trod_lt m _ _ _ hm
  have k1 := h1
  have lt1 : ∀ x ∈ p1, x.block < W.heap.size := by obtain ⟨m, hm⟩ := k1; exact DataW.trod_lt m _ _ _ hm
  obtain ⟨n, a, e, c, s, p, t, u1, u2, u3, u4, u5, u6, u7, rfl⟩ : ∃ n a e c s p t, U8 n ∧ U8 a ∧ U8 e ∧ U8 c ∧ U8 s ∧ U8 p ∧ U8 t ∧ v0 = ifV n a e c s p t := by
    obtain ⟨cs, rfl, hl, fu, hf⟩ := open_fields Try.underlying73 (by kernel_rfl) (by kernel_rfl) (hval 0 73 v0 rfl rfl) h0
    obtain ⟨c0, c1, c2, c3, c4, c5, c6, rfl⟩ := list7 hl
    obtain ⟨x0, rfl, b0⟩ := get_u8 Try.underlying5 (hf 0 _ c0 rfl rfl)
    obtain ⟨x1, rfl, b1⟩ := get_u8 Try.underlying5 (hf 1 _ c1 rfl rfl)
    obtain ⟨x2, rfl, b2⟩ := get_u8 Try.underlying5 (hf 2 _ c2 rfl rfl)
    obtain ⟨x3, rfl, b3⟩ := get_u8 Try.underlying5 (hf 3 _ c3 rfl rfl)
    obtain ⟨x4, rfl, b4⟩ := get_u8 Try.underlying5 (hf 4 _ c4 rfl rfl)
    obtain ⟨x5, rfl, b5⟩ := get_u8 Try.underlying5 (hf 5 _ c5 rfl rfl)
    obtain ⟨x6, rfl, b6⟩ := get_u8 Try.underlying5 (hf 6 _ c6 rfl rfl)
    exact ⟨x0, x1, x2, x3, x4, x5, x6, b0, b1, b2, b3, b4, b5, b6, rfl⟩
  obtain ⟨A, m, qc, l, rfl, hlm, hrd, hB, hmx⟩ := open_bytes Try.underlying23 Try.underlying5 (by kernel_rfl) (hval 1 23 v1 rfl rfl) h1
  clear hA0 hval0
  refine (lawIf_any n a e c s p t A m qc l W u1 u2 u3 u4 u5 u6 u7 hlm hrd hB hmx).mono fun e W' ⟨he, bel⟩ => ?_
  subst he
  exact ⟨_, rfl, _, _, _, [], _, [], hW', trodAll_mk1 (shut_bool Try.underlying4 _), (trodAll_cons_mk (Below.trod laidOut (by kernel_rfl) (of_decide_eq_true (by kernel_rfl)) k0 bel lt0) (trodAll_cons_mk (Below.trod laidOut (by kernel_rfl) (of_decide_eq_true (by kernel_rfl)) k1 bel lt1) trodAll_mk0)), rfl, bel.frame _, fun h => by cases h⟩

theorem over : Rows.descriptorsInterfaceRow.holds Try.pinned (OpenSpec.ofChange Rows.descriptorsInterfaceSpec) :=
  OpenClaim.holds_of_wide 9 Try.f9 rfl rfl rfl rfl rfl rfl rfl ⟨rfl, rfl, rfl, rfl, rfl⟩ rfl rfl rfl rfl rfl (by kernel_rfl) Try.func9 (by kernel_rfl)
    (of_decide_eq_true (by kernel_rfl)) (by unfold Func.isWrapper; first | (rw [if_pos (by decide +kernel)]; kernel_rfl) | (rw [if_neg (by decide +kernel)]; exact ⟨rfl, rfl⟩))
    (fun os started H enc _ => lifted os started H enc)

theorem proved : Rows.DescriptorsInterfaceSaid := over
end Go.Proofs.Ytojifdijcanbpaa.descriptorsInterface
