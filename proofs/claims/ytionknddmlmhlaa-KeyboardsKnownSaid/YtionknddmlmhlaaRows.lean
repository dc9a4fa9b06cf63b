/-
  No cell of these rows narrows 'for every input' (looked for: loops, veiled, ifaces, maps, wideKeys, modest, calm, conditions, laid).
  DERIVED. THE GIVEN ROWS OF THIS SEAT. 5 by the template 'for every input the law returns true; each argument reads behind the call as it read before'; 0 by the template 'total and deterministic' (their statements: YtionknddmlmhlaaTotals.lean).
  GIVEN WITH THE SEED: the statements are not yours to turn. If you find one false, say at which input.
  Laid BY PROGRAM, IN A SANDBOX (cutbox-rows.mjs): the forced cells as the released guide's own fill.sh prints them over the translation ade54a8769317dd3… (all of the seat's roots in one cut). By AI agents, Wed Nov 11 2026. No macro, syntax, notation, axiom, sorry.
-/
import Derived.Test.YtionknddmlmhlaaChecked
import GoSem.Claim
import GoSem.ClaimJoined
import GoSem.ClaimMapViews
import Derived.JoinedTies
import Derived.KernelRfl
namespace Go.Proofs.Ytionknddmlmhlaa
/- THE CELL 'sum', in the pinned program and in every row, IS THE sha256 OF THE DUMP (.gsa) THAT YtionknddmlmhlaaProg.lean LOADS. Nothing in Lean hashes anything: it is a label: what it is worth is what the hold of that sum in a sandbox is worth. -/
noncomputable def Try.pinned : Pinned := { name := "ytionknddmlmhlaa", sum := "ade54a8769317dd3f00001dc039aaad6c20fe3737eedcb8d61d03b9c15a39d94", checked := Try.checked }
namespace Rows
def none {H : Type} : Left H := { results := [], args := [] }

/-- 'plugboardlaw36.KeyboardsTyped': WHATEVER THE INPUT: true; the input reads as it did. -/
def keyboardsTypedSpec : ChangeSpec := { name := "keyboardsTyped", fn := fun _ => fun
  | [d1, d2, d3] => { results := [.lit (.bool true)], args := [d1, d2, d3] }
  | _ => none }
def keyboardsTypedRow : OpenClaim := { program := "ytionknddmlmhlaa", sum := "ade54a8769317dd3f00001dc039aaad6c20fe3737eedcb8d61d03b9c15a39d94", func := "plugboard/plugboardlaw36.KeyboardsTyped", spec := "keyboardsTyped", unfollowed := true, recurses := true, apart := false }
def KeyboardsTypedSaid : Prop := keyboardsTypedRow.holds Try.pinned (OpenSpec.ofChange keyboardsTypedSpec)

/-- ITS FALSE NEIGHBOUR: 'it returns false'. Refute it at one input. -/
def keyboardsTypedWrong : ChangeSpec := { name := "keyboardsTyped", fn := fun _ => fun
  | [d1, d2, d3] => { results := [.lit (.bool false)], args := [d1, d2, d3] }
  | _ => none }
def KeyboardsTypedWrongFalsely : Prop := keyboardsTypedRow.holds Try.pinned (OpenSpec.ofChange keyboardsTypedWrong)

/-- 'plugboardlaw36.KeyboardsEvents': WHATEVER THE INPUT: true; the input reads as it did. -/
def keyboardsEventsSpec : ChangeSpec := { name := "keyboardsEvents", fn := fun _ => fun
  | [d1, d2] => { results := [.lit (.bool true)], args := [d1, d2] }
  | _ => none }
def keyboardsEventsRow : OpenClaim := { program := "ytionknddmlmhlaa", sum := "ade54a8769317dd3f00001dc039aaad6c20fe3737eedcb8d61d03b9c15a39d94", func := "plugboard/plugboardlaw36.KeyboardsEvents", spec := "keyboardsEvents", unfollowed := true, recurses := true, apart := false }
def KeyboardsEventsSaid : Prop := keyboardsEventsRow.holds Try.pinned (OpenSpec.ofChange keyboardsEventsSpec)

/-- ITS FALSE NEIGHBOUR: 'it returns false'. Refute it at one input. -/
def keyboardsEventsWrong : ChangeSpec := { name := "keyboardsEvents", fn := fun _ => fun
  | [d1, d2] => { results := [.lit (.bool false)], args := [d1, d2] }
  | _ => none }
def KeyboardsEventsWrongFalsely : Prop := keyboardsEventsRow.holds Try.pinned (OpenSpec.ofChange keyboardsEventsWrong)

/-- 'plugboardlaw36.KeyboardsLamps': WHATEVER THE INPUT: true; the input reads as it did. -/
def keyboardsLampsSpec : ChangeSpec := { name := "keyboardsLamps", fn := fun _ => fun
  | [d1, d2] => { results := [.lit (.bool true)], args := [d1, d2] }
  | _ => none }
def keyboardsLampsRow : OpenClaim := { program := "ytionknddmlmhlaa", sum := "ade54a8769317dd3f00001dc039aaad6c20fe3737eedcb8d61d03b9c15a39d94", func := "plugboard/plugboardlaw36.KeyboardsLamps", spec := "keyboardsLamps", unfollowed := true, recurses := true, apart := false }
def KeyboardsLampsSaid : Prop := keyboardsLampsRow.holds Try.pinned (OpenSpec.ofChange keyboardsLampsSpec)

/-- ITS FALSE NEIGHBOUR: 'it returns false'. Refute it at one input. -/
def keyboardsLampsWrong : ChangeSpec := { name := "keyboardsLamps", fn := fun _ => fun
  | [d1, d2] => { results := [.lit (.bool false)], args := [d1, d2] }
  | _ => none }
def KeyboardsLampsWrongFalsely : Prop := keyboardsLampsRow.holds Try.pinned (OpenSpec.ofChange keyboardsLampsWrong)

/-- 'plugboardlaw36.KeyboardsErrors': WHATEVER THE INPUT: true; the input reads as it did. -/
def keyboardsErrorsSpec : ChangeSpec := { name := "keyboardsErrors", fn := fun _ => fun
  | [d1, d2, d3] => { results := [.lit (.bool true)], args := [d1, d2, d3] }
  | _ => none }
def keyboardsErrorsRow : OpenClaim := { program := "ytionknddmlmhlaa", sum := "ade54a8769317dd3f00001dc039aaad6c20fe3737eedcb8d61d03b9c15a39d94", func := "plugboard/plugboardlaw36.KeyboardsErrors", spec := "keyboardsErrors", unfollowed := true, recurses := true, apart := false }
def KeyboardsErrorsSaid : Prop := keyboardsErrorsRow.holds Try.pinned (OpenSpec.ofChange keyboardsErrorsSpec)

/-- ITS FALSE NEIGHBOUR: 'it returns false'. Refute it at one input. -/
def keyboardsErrorsWrong : ChangeSpec := { name := "keyboardsErrors", fn := fun _ => fun
  | [d1, d2, d3] => { results := [.lit (.bool false)], args := [d1, d2, d3] }
  | _ => none }
def KeyboardsErrorsWrongFalsely : Prop := keyboardsErrorsRow.holds Try.pinned (OpenSpec.ofChange keyboardsErrorsWrong)

/-- 'plugboardlaw36.KeyboardsKnown': WHATEVER THE INPUT: true; the input reads as it did. -/
def keyboardsKnownSpec : ChangeSpec := { name := "keyboardsKnown", fn := fun _ => fun
  | [] => { results := [.lit (.bool true)], args := [] }
  | _ => none }
def keyboardsKnownRow : OpenClaim := { program := "ytionknddmlmhlaa", sum := "ade54a8769317dd3f00001dc039aaad6c20fe3737eedcb8d61d03b9c15a39d94", func := "plugboard/plugboardlaw36.KeyboardsKnown", spec := "keyboardsKnown", unfollowed := true, recurses := true, apart := false }
def KeyboardsKnownSaid : Prop := keyboardsKnownRow.holds Try.pinned (OpenSpec.ofChange keyboardsKnownSpec)

/-- ITS FALSE NEIGHBOUR: 'it returns false'. Refute it at one input. -/
def keyboardsKnownWrong : ChangeSpec := { name := "keyboardsKnown", fn := fun _ => fun
  | [] => { results := [.lit (.bool false)], args := [] }
  | _ => none }
def KeyboardsKnownWrongFalsely : Prop := keyboardsKnownRow.holds Try.pinned (OpenSpec.ofChange keyboardsKnownWrong)

/- THE SECOND FORM. 'bulk': how many values and letters a reading holds, each counted each time it is reached (what is shared counts as often as it is met; a slice's spare places count too). A statement '..UptoSaid' is the law's where the arguments, and the package variables that the reading takes, are together of bulk at most 1048576: NARROWER than '..Said'. Prove '..Said' where nothing that the law and all that it calls make is longer than what came in: it says more and counts as full. Else prove '..UptoSaid'. A law counts once. -/
mutual
def uptoBulk {H : Type} : DataW H → Nat
  | .lit (.string bytes) => bytes.length + 1
  | .lit _ => 1
  | .nil => 1
  | .ptr d => uptoBulk d + 1
  | .slice elems spare => uptoBulkAll elems + uptoBulkAll spare + 1
  | .agg parts => uptoBulkAll parts + 1
  | .iface _ d => uptoBulk d + 1
  | .map entries => uptoBulkEntries entries + 1
  | .held _ => 1
def uptoBulkAll {H : Type} : List (DataW H) → Nat
  | [] => 0
  | d :: r => uptoBulk d + uptoBulkAll r
def uptoBulkEntries {H : Type} : List (Lit × DataW H) → Nat
  | [] => 0
  | x :: r => uptoBulkEntry x + uptoBulkEntries r
def uptoBulkEntry {H : Type} : Lit × DataW H → Nat
  | (.string bytes, d) => bytes.length + uptoBulk d + 1
  | (_, d) => uptoBulk d + 1
 end
def uptoSmall : (H : Type) → List (DataW H) → Bool := fun _ ds => decide (uptoBulkAll ds ≤ 1048576)
def OpenSpec.upto (s : _root_.Go.ChangeSpec) : _root_.Go.OpenSpec := { _root_.Go.OpenSpec.ofChange s with cond := some uptoSmall }

/-- 'plugboardlaw36.KeyboardsTyped', WHERE WHAT IT READS IS OF BULK AT MOST 1048576: true; the input reads as it did. -/
def keyboardsTypedUptoRow : OpenClaim := { program := "ytionknddmlmhlaa", sum := "ade54a8769317dd3f00001dc039aaad6c20fe3737eedcb8d61d03b9c15a39d94", func := "plugboard/plugboardlaw36.KeyboardsTyped", spec := "keyboardsTyped", unfollowed := true, recurses := true, apart := false, narrowed := true }
def KeyboardsTypedUptoSaid : Prop := keyboardsTypedUptoRow.holds Try.pinned (OpenSpec.upto keyboardsTypedSpec)

/-- 'plugboardlaw36.KeyboardsEvents', WHERE WHAT IT READS IS OF BULK AT MOST 1048576: true; the input reads as it did. -/
def keyboardsEventsUptoRow : OpenClaim := { program := "ytionknddmlmhlaa", sum := "ade54a8769317dd3f00001dc039aaad6c20fe3737eedcb8d61d03b9c15a39d94", func := "plugboard/plugboardlaw36.KeyboardsEvents", spec := "keyboardsEvents", unfollowed := true, recurses := true, apart := false, narrowed := true }
def KeyboardsEventsUptoSaid : Prop := keyboardsEventsUptoRow.holds Try.pinned (OpenSpec.upto keyboardsEventsSpec)

/-- 'plugboardlaw36.KeyboardsLamps', WHERE WHAT IT READS IS OF BULK AT MOST 1048576: true; the input reads as it did. -/
def keyboardsLampsUptoRow : OpenClaim := { program := "ytionknddmlmhlaa", sum := "ade54a8769317dd3f00001dc039aaad6c20fe3737eedcb8d61d03b9c15a39d94", func := "plugboard/plugboardlaw36.KeyboardsLamps", spec := "keyboardsLamps", unfollowed := true, recurses := true, apart := false, narrowed := true }
def KeyboardsLampsUptoSaid : Prop := keyboardsLampsUptoRow.holds Try.pinned (OpenSpec.upto keyboardsLampsSpec)

/-- 'plugboardlaw36.KeyboardsErrors', WHERE WHAT IT READS IS OF BULK AT MOST 1048576: true; the input reads as it did. -/
def keyboardsErrorsUptoRow : OpenClaim := { program := "ytionknddmlmhlaa", sum := "ade54a8769317dd3f00001dc039aaad6c20fe3737eedcb8d61d03b9c15a39d94", func := "plugboard/plugboardlaw36.KeyboardsErrors", spec := "keyboardsErrors", unfollowed := true, recurses := true, apart := false, narrowed := true }
def KeyboardsErrorsUptoSaid : Prop := keyboardsErrorsUptoRow.holds Try.pinned (OpenSpec.upto keyboardsErrorsSpec)

/-- 'plugboardlaw36.KeyboardsKnown', WHERE WHAT IT READS IS OF BULK AT MOST 1048576: true; the input reads as it did. -/
def keyboardsKnownUptoRow : OpenClaim := { program := "ytionknddmlmhlaa", sum := "ade54a8769317dd3f00001dc039aaad6c20fe3737eedcb8d61d03b9c15a39d94", func := "plugboard/plugboardlaw36.KeyboardsKnown", spec := "keyboardsKnown", unfollowed := true, recurses := true, apart := false, narrowed := true }
def KeyboardsKnownUptoSaid : Prop := keyboardsKnownUptoRow.holds Try.pinned (OpenSpec.upto keyboardsKnownSpec)

end Rows
end Go.Proofs.Ytionknddmlmhlaa
