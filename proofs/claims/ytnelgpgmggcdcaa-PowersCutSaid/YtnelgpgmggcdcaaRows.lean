/-
  No cell of these rows narrows 'for every input' (looked for: loops, veiled, ifaces, maps, wideKeys, modest, calm, conditions, laid).
  DERIVED. THE GIVEN ROWS OF THIS SEAT. 6 by the template 'for every input the law returns true; each argument reads behind the call as it read before'; 0 by the template 'total and deterministic' (their statements: YtnelgpgmggcdcaaTotals.lean).
  GIVEN WITH THE SEED: the statements are not yours to turn. If you find one false, say at which input.
  Laid BY PROGRAM, IN A SANDBOX (cutbox-rows.mjs): the forced cells as the released guide's own fill.sh prints them over the translation 206dc6eef7c5f63d… (all of the seat's roots in one cut). By AI agents, Wed Nov 11 2026. No macro, syntax, notation, axiom, sorry.
-/
import Derived.Test.YtnelgpgmggcdcaaChecked
import GoSem.Claim
import GoSem.ClaimJoined
import GoSem.ClaimMapViews
import Derived.JoinedTies
import Derived.KernelRfl
namespace Go.Proofs.Ytnelgpgmggcdcaa
/- THE CELL 'sum', in the pinned program and in every row, IS THE sha256 OF THE DUMP (.gsa) THAT YtnelgpgmggcdcaaProg.lean LOADS. Nothing in Lean hashes anything: it is a label: what it is worth is what the hold of that sum in a sandbox is worth. -/
noncomputable def Try.pinned : Pinned := { name := "ytnelgpgmggcdcaa", sum := "206dc6eef7c5f63d9d4fc5a0861b154ee8cb4335a2cfbd75aba0069b4673d03a", checked := Try.checked }
namespace Rows
def none {H : Type} : Left H := { results := [], args := [] }

/-- 'plugboardlaw19.PowersLoads': WHATEVER THE INPUT: true; the input reads as it did. -/
def powersLoadsSpec : ChangeSpec := { name := "powersLoads", fn := fun _ => fun
  | [d] => { results := [.lit (.bool true)], args := [d] }
  | _ => none }
def powersLoadsRow : OpenClaim := { program := "ytnelgpgmggcdcaa", sum := "206dc6eef7c5f63d9d4fc5a0861b154ee8cb4335a2cfbd75aba0069b4673d03a", func := "plugboard/plugboardlaw19.PowersLoads", spec := "powersLoads", unfollowed := true, recurses := true, apart := false }
def PowersLoadsSaid : Prop := powersLoadsRow.holds Try.pinned (OpenSpec.ofChange powersLoadsSpec)

/-- ITS FALSE NEIGHBOUR: 'it returns false'. Refute it at one input. -/
def powersLoadsWrong : ChangeSpec := { name := "powersLoads", fn := fun _ => fun
  | [d] => { results := [.lit (.bool false)], args := [d] }
  | _ => none }
def PowersLoadsWrongFalsely : Prop := powersLoadsRow.holds Try.pinned (OpenSpec.ofChange powersLoadsWrong)

/-- 'plugboardlaw19.PowersCut': WHATEVER THE INPUT: true; the input reads as it did. -/
def powersCutSpec : ChangeSpec := { name := "powersCut", fn := fun _ => fun
  | [d] => { results := [.lit (.bool true)], args := [d] }
  | _ => none }
def powersCutRow : OpenClaim := { program := "ytnelgpgmggcdcaa", sum := "206dc6eef7c5f63d9d4fc5a0861b154ee8cb4335a2cfbd75aba0069b4673d03a", func := "plugboard/plugboardlaw19.PowersCut", spec := "powersCut", unfollowed := true, recurses := true, apart := false }
def PowersCutSaid : Prop := powersCutRow.holds Try.pinned (OpenSpec.ofChange powersCutSpec)

/-- ITS FALSE NEIGHBOUR: 'it returns false'. Refute it at one input. -/
def powersCutWrong : ChangeSpec := { name := "powersCut", fn := fun _ => fun
  | [d] => { results := [.lit (.bool false)], args := [d] }
  | _ => none }
def PowersCutWrongFalsely : Prop := powersCutRow.holds Try.pinned (OpenSpec.ofChange powersCutWrong)

/-- 'plugboardlaw19.PowersAdmits': WHATEVER THE INPUT: true; the input reads as it did. -/
def powersAdmitsSpec : ChangeSpec := { name := "powersAdmits", fn := fun _ => fun
  | [d1, d2, d3] => { results := [.lit (.bool true)], args := [d1, d2, d3] }
  | _ => none }
def powersAdmitsRow : OpenClaim := { program := "ytnelgpgmggcdcaa", sum := "206dc6eef7c5f63d9d4fc5a0861b154ee8cb4335a2cfbd75aba0069b4673d03a", func := "plugboard/plugboardlaw19.PowersAdmits", spec := "powersAdmits", unfollowed := true, recurses := true, apart := false }
def PowersAdmitsSaid : Prop := powersAdmitsRow.holds Try.pinned (OpenSpec.ofChange powersAdmitsSpec)

/-- ITS FALSE NEIGHBOUR: 'it returns false'. Refute it at one input. -/
def powersAdmitsWrong : ChangeSpec := { name := "powersAdmits", fn := fun _ => fun
  | [d1, d2, d3] => { results := [.lit (.bool false)], args := [d1, d2, d3] }
  | _ => none }
def PowersAdmitsWrongFalsely : Prop := powersAdmitsRow.holds Try.pinned (OpenSpec.ofChange powersAdmitsWrong)

/-- 'plugboardlaw19.PowersFree': WHATEVER THE INPUT: true; the input reads as it did. -/
def powersFreeSpec : ChangeSpec := { name := "powersFree", fn := fun _ => fun
  | [d1, d2] => { results := [.lit (.bool true)], args := [d1, d2] }
  | _ => none }
def powersFreeRow : OpenClaim := { program := "ytnelgpgmggcdcaa", sum := "206dc6eef7c5f63d9d4fc5a0861b154ee8cb4335a2cfbd75aba0069b4673d03a", func := "plugboard/plugboardlaw19.PowersFree", spec := "powersFree", unfollowed := true, recurses := true, apart := false }
def PowersFreeSaid : Prop := powersFreeRow.holds Try.pinned (OpenSpec.ofChange powersFreeSpec)

/-- ITS FALSE NEIGHBOUR: 'it returns false'. Refute it at one input. -/
def powersFreeWrong : ChangeSpec := { name := "powersFree", fn := fun _ => fun
  | [d1, d2] => { results := [.lit (.bool false)], args := [d1, d2] }
  | _ => none }
def PowersFreeWrongFalsely : Prop := powersFreeRow.holds Try.pinned (OpenSpec.ofChange powersFreeWrong)

/-- 'plugboardlaw19.PowersCheck': WHATEVER THE INPUT: true; the input reads as it did. -/
def powersCheckSpec : ChangeSpec := { name := "powersCheck", fn := fun _ => fun
  | [d1, d2] => { results := [.lit (.bool true)], args := [d1, d2] }
  | _ => none }
def powersCheckRow : OpenClaim := { program := "ytnelgpgmggcdcaa", sum := "206dc6eef7c5f63d9d4fc5a0861b154ee8cb4335a2cfbd75aba0069b4673d03a", func := "plugboard/plugboardlaw19.PowersCheck", spec := "powersCheck", unfollowed := true, recurses := true, apart := false }
def PowersCheckSaid : Prop := powersCheckRow.holds Try.pinned (OpenSpec.ofChange powersCheckSpec)

/-- ITS FALSE NEIGHBOUR: 'it returns false'. Refute it at one input. -/
def powersCheckWrong : ChangeSpec := { name := "powersCheck", fn := fun _ => fun
  | [d1, d2] => { results := [.lit (.bool false)], args := [d1, d2] }
  | _ => none }
def PowersCheckWrongFalsely : Prop := powersCheckRow.holds Try.pinned (OpenSpec.ofChange powersCheckWrong)

/-- 'plugboardlaw19.PowersApart': WHATEVER THE INPUT: true; the input reads as it did. -/
def powersApartSpec : ChangeSpec := { name := "powersApart", fn := fun _ => fun
  | [d1, d2, d3] => { results := [.lit (.bool true)], args := [d1, d2, d3] }
  | _ => none }
def powersApartRow : OpenClaim := { program := "ytnelgpgmggcdcaa", sum := "206dc6eef7c5f63d9d4fc5a0861b154ee8cb4335a2cfbd75aba0069b4673d03a", func := "plugboard/plugboardlaw19.PowersApart", spec := "powersApart", unfollowed := true, recurses := true, apart := false }
def PowersApartSaid : Prop := powersApartRow.holds Try.pinned (OpenSpec.ofChange powersApartSpec)

/-- ITS FALSE NEIGHBOUR: 'it returns false'. Refute it at one input. -/
def powersApartWrong : ChangeSpec := { name := "powersApart", fn := fun _ => fun
  | [d1, d2, d3] => { results := [.lit (.bool false)], args := [d1, d2, d3] }
  | _ => none }
def PowersApartWrongFalsely : Prop := powersApartRow.holds Try.pinned (OpenSpec.ofChange powersApartWrong)

/- THE SECOND FORM. 'bulk': how many values and letters a reading holds, each counted each time it is reached (what is shared counts as often as it is met; a slice's spare places count too). A statement '..UptoSaid' is the law's where the arguments, and the package variables that the reading takes, are together of bulk at most 1048576: NARROWER than '..Said'. Prove '..Said' where nothing that the law and all that it calls make is longer than what came in: it says more and counts as full. Else prove '..UptoSaid'. A law counts once. -/
mutual
def uptoBulk {H : Type} : DataW H → Nat
  | .lit (.string bytes) => bytes.length + 1
  | .lit _ => 1
  | .nil => 1
  | .ptr d => uptoBulk d + 1
  | .slice elems spare => uptoBulkAll elems + uptoBulkAll spare + 1
  | .agg parts => uptoBulkAll parts + 1
  | .iface _ d => uptoBulk d + 1
  | .map entries => uptoBulkEntries entries + 1
  | .held _ => 1
def uptoBulkAll {H : Type} : List (DataW H) → Nat
  | [] => 0
  | d :: r => uptoBulk d + uptoBulkAll r
def uptoBulkEntries {H : Type} : List (Lit × DataW H) → Nat
  | [] => 0
  | x :: r => uptoBulkEntry x + uptoBulkEntries r
def uptoBulkEntry {H : Type} : Lit × DataW H → Nat
  | (.string bytes, d) => bytes.length + uptoBulk d + 1
  | (_, d) => uptoBulk d + 1
 end
def uptoSmall : (H : Type) → List (DataW H) → Bool := fun _ ds => decide (uptoBulkAll ds ≤ 1048576)
def OpenSpec.upto (s : _root_.Go.ChangeSpec) : _root_.Go.OpenSpec := { _root_.Go.OpenSpec.ofChange s with cond := some uptoSmall }

/-- 'plugboardlaw19.PowersLoads', WHERE WHAT IT READS IS OF BULK AT MOST 1048576: true; the input reads as it did. -/
def powersLoadsUptoRow : OpenClaim := { program := "ytnelgpgmggcdcaa", sum := "206dc6eef7c5f63d9d4fc5a0861b154ee8cb4335a2cfbd75aba0069b4673d03a", func := "plugboard/plugboardlaw19.PowersLoads", spec := "powersLoads", unfollowed := true, recurses := true, apart := false, narrowed := true }
def PowersLoadsUptoSaid : Prop := powersLoadsUptoRow.holds Try.pinned (OpenSpec.upto powersLoadsSpec)

/-- 'plugboardlaw19.PowersCut', WHERE WHAT IT READS IS OF BULK AT MOST 1048576: true; the input reads as it did. -/
def powersCutUptoRow : OpenClaim := { program := "ytnelgpgmggcdcaa", sum := "206dc6eef7c5f63d9d4fc5a0861b154ee8cb4335a2cfbd75aba0069b4673d03a", func := "plugboard/plugboardlaw19.PowersCut", spec := "powersCut", unfollowed := true, recurses := true, apart := false, narrowed := true }
def PowersCutUptoSaid : Prop := powersCutUptoRow.holds Try.pinned (OpenSpec.upto powersCutSpec)

/-- 'plugboardlaw19.PowersAdmits', WHERE WHAT IT READS IS OF BULK AT MOST 1048576: true; the input reads as it did. -/
def powersAdmitsUptoRow : OpenClaim := { program := "ytnelgpgmggcdcaa", sum := "206dc6eef7c5f63d9d4fc5a0861b154ee8cb4335a2cfbd75aba0069b4673d03a", func := "plugboard/plugboardlaw19.PowersAdmits", spec := "powersAdmits", unfollowed := true, recurses := true, apart := false, narrowed := true }
def PowersAdmitsUptoSaid : Prop := powersAdmitsUptoRow.holds Try.pinned (OpenSpec.upto powersAdmitsSpec)

/-- 'plugboardlaw19.PowersFree', WHERE WHAT IT READS IS OF BULK AT MOST 1048576: true; the input reads as it did. -/
def powersFreeUptoRow : OpenClaim := { program := "ytnelgpgmggcdcaa", sum := "206dc6eef7c5f63d9d4fc5a0861b154ee8cb4335a2cfbd75aba0069b4673d03a", func := "plugboard/plugboardlaw19.PowersFree", spec := "powersFree", unfollowed := true, recurses := true, apart := false, narrowed := true }
def PowersFreeUptoSaid : Prop := powersFreeUptoRow.holds Try.pinned (OpenSpec.upto powersFreeSpec)

/-- 'plugboardlaw19.PowersCheck', WHERE WHAT IT READS IS OF BULK AT MOST 1048576: true; the input reads as it did. -/
def powersCheckUptoRow : OpenClaim := { program := "ytnelgpgmggcdcaa", sum := "206dc6eef7c5f63d9d4fc5a0861b154ee8cb4335a2cfbd75aba0069b4673d03a", func := "plugboard/plugboardlaw19.PowersCheck", spec := "powersCheck", unfollowed := true, recurses := true, apart := false, narrowed := true }
def PowersCheckUptoSaid : Prop := powersCheckUptoRow.holds Try.pinned (OpenSpec.upto powersCheckSpec)

/-- 'plugboardlaw19.PowersApart', WHERE WHAT IT READS IS OF BULK AT MOST 1048576: true; the input reads as it did. -/
def powersApartUptoRow : OpenClaim := { program := "ytnelgpgmggcdcaa", sum := "206dc6eef7c5f63d9d4fc5a0861b154ee8cb4335a2cfbd75aba0069b4673d03a", func := "plugboard/plugboardlaw19.PowersApart", spec := "powersApart", unfollowed := true, recurses := true, apart := false, narrowed := true }
def PowersApartUptoSaid : Prop := powersApartUptoRow.holds Try.pinned (OpenSpec.upto powersApartSpec)

end Rows
end Go.Proofs.Ytnelgpgmggcdcaa
