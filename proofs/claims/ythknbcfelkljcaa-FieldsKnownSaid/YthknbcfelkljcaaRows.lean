/-
  No cell of these rows narrows 'for every input' (looked for: loops, veiled, ifaces, maps, wideKeys, modest, calm, conditions, laid).
  DERIVED. THE GIVEN ROWS OF THIS SEAT. 4 by the template 'for every input the law returns true; each argument reads behind the call as it read before'; 0 by the template 'total and deterministic' (their statements: YthknbcfelkljcaaTotals.lean).
  GIVEN WITH THE SEED: the statements are not yours to turn. If you find one false, say at which input.
  Laid BY PROGRAM, IN A SANDBOX (cutbox-rows.mjs): the forced cells as the released guide's own fill.sh prints them over the translation e3fe9f7d2bffcccb… (all of the seat's roots in one cut). By AI agents, Wed Nov 11 2026. No macro, syntax, notation, axiom, sorry.
-/
import Derived.Test.YthknbcfelkljcaaChecked
import GoSem.Claim
import GoSem.ClaimJoined
import GoSem.ClaimMapViews
import Derived.JoinedTies
import Derived.KernelRfl
namespace Go.Proofs.Ythknbcfelkljcaa
/- THE CELL 'sum', in the pinned program and in every row, IS THE sha256 OF THE DUMP (.gsa) THAT YthknbcfelkljcaaProg.lean LOADS. Nothing in Lean hashes anything: it is a label: what it is worth is what the hold of that sum in a sandbox is worth. -/
noncomputable def Try.pinned : Pinned := { name := "ythknbcfelkljcaa", sum := "e3fe9f7d2bffcccb96a6c3c99a8d19cc25647a6c47742ca3fdcca5643d7cc2f5", checked := Try.checked }
namespace Rows
def none {H : Type} : Left H := { results := [], args := [] }

/-- 'plugboardlaw35.FieldsValues': WHATEVER THE INPUT: true; the input reads as it did. -/
def fieldsValuesSpec : ChangeSpec := { name := "fieldsValues", fn := fun _ => fun
  | [d1, d2, d3] => { results := [.lit (.bool true)], args := [d1, d2, d3] }
  | _ => none }
def fieldsValuesRow : OpenClaim := { program := "ythknbcfelkljcaa", sum := "e3fe9f7d2bffcccb96a6c3c99a8d19cc25647a6c47742ca3fdcca5643d7cc2f5", func := "plugboard/plugboardlaw35.FieldsValues", spec := "fieldsValues", unfollowed := true, recurses := true, apart := false }
def FieldsValuesSaid : Prop := fieldsValuesRow.holds Try.pinned (OpenSpec.ofChange fieldsValuesSpec)

/-- ITS FALSE NEIGHBOUR: 'it returns false'. Refute it at one input. -/
def fieldsValuesWrong : ChangeSpec := { name := "fieldsValues", fn := fun _ => fun
  | [d1, d2, d3] => { results := [.lit (.bool false)], args := [d1, d2, d3] }
  | _ => none }
def FieldsValuesWrongFalsely : Prop := fieldsValuesRow.holds Try.pinned (OpenSpec.ofChange fieldsValuesWrong)

/-- 'plugboardlaw35.FieldsPut': WHATEVER THE INPUT: true; the input reads as it did. -/
def fieldsPutSpec : ChangeSpec := { name := "fieldsPut", fn := fun _ => fun
  | [d1, d2, d3] => { results := [.lit (.bool true)], args := [d1, d2, d3] }
  | _ => none }
def fieldsPutRow : OpenClaim := { program := "ythknbcfelkljcaa", sum := "e3fe9f7d2bffcccb96a6c3c99a8d19cc25647a6c47742ca3fdcca5643d7cc2f5", func := "plugboard/plugboardlaw35.FieldsPut", spec := "fieldsPut", unfollowed := true, recurses := true, apart := false }
def FieldsPutSaid : Prop := fieldsPutRow.holds Try.pinned (OpenSpec.ofChange fieldsPutSpec)

/-- ITS FALSE NEIGHBOUR: 'it returns false'. Refute it at one input. -/
def fieldsPutWrong : ChangeSpec := { name := "fieldsPut", fn := fun _ => fun
  | [d1, d2, d3] => { results := [.lit (.bool false)], args := [d1, d2, d3] }
  | _ => none }
def FieldsPutWrongFalsely : Prop := fieldsPutRow.holds Try.pinned (OpenSpec.ofChange fieldsPutWrong)

/-- 'plugboardlaw35.FieldsBack': WHATEVER THE INPUT: true; the input reads as it did. -/
def fieldsBackSpec : ChangeSpec := { name := "fieldsBack", fn := fun _ => fun
  | [d1, d2, d3] => { results := [.lit (.bool true)], args := [d1, d2, d3] }
  | _ => none }
def fieldsBackRow : OpenClaim := { program := "ythknbcfelkljcaa", sum := "e3fe9f7d2bffcccb96a6c3c99a8d19cc25647a6c47742ca3fdcca5643d7cc2f5", func := "plugboard/plugboardlaw35.FieldsBack", spec := "fieldsBack", unfollowed := true, recurses := true, apart := false }
def FieldsBackSaid : Prop := fieldsBackRow.holds Try.pinned (OpenSpec.ofChange fieldsBackSpec)

/-- ITS FALSE NEIGHBOUR: 'it returns false'. Refute it at one input. -/
def fieldsBackWrong : ChangeSpec := { name := "fieldsBack", fn := fun _ => fun
  | [d1, d2, d3] => { results := [.lit (.bool false)], args := [d1, d2, d3] }
  | _ => none }
def FieldsBackWrongFalsely : Prop := fieldsBackRow.holds Try.pinned (OpenSpec.ofChange fieldsBackWrong)

/-- 'plugboardlaw35.FieldsKnown': WHATEVER THE INPUT: true; the input reads as it did. -/
def fieldsKnownSpec : ChangeSpec := { name := "fieldsKnown", fn := fun _ => fun
  | [] => { results := [.lit (.bool true)], args := [] }
  | _ => none }
def fieldsKnownRow : OpenClaim := { program := "ythknbcfelkljcaa", sum := "e3fe9f7d2bffcccb96a6c3c99a8d19cc25647a6c47742ca3fdcca5643d7cc2f5", func := "plugboard/plugboardlaw35.FieldsKnown", spec := "fieldsKnown", unfollowed := true, recurses := true, apart := false }
def FieldsKnownSaid : Prop := fieldsKnownRow.holds Try.pinned (OpenSpec.ofChange fieldsKnownSpec)

/-- ITS FALSE NEIGHBOUR: 'it returns false'. Refute it at one input. -/
def fieldsKnownWrong : ChangeSpec := { name := "fieldsKnown", fn := fun _ => fun
  | [] => { results := [.lit (.bool false)], args := [] }
  | _ => none }
def FieldsKnownWrongFalsely : Prop := fieldsKnownRow.holds Try.pinned (OpenSpec.ofChange fieldsKnownWrong)

/- THE SECOND FORM. 'bulk': how many values and letters a reading holds, each counted each time it is reached (what is shared counts as often as it is met; a slice's spare places count too). A statement '..UptoSaid' is the law's where the arguments, and the package variables that the reading takes, are together of bulk at most 1048576: NARROWER than '..Said'. Prove '..Said' where nothing that the law and all that it calls make is longer than what came in: it says more and counts as full. Else prove '..UptoSaid'. A law counts once. -/
mutual
def uptoBulk {H : Type} : DataW H → Nat
  | .lit (.string bytes) => bytes.length + 1
  | .lit _ => 1
  | .nil => 1
  | .ptr d => uptoBulk d + 1
  | .slice elems spare => uptoBulkAll elems + uptoBulkAll spare + 1
  | .agg parts => uptoBulkAll parts + 1
  | .iface _ d => uptoBulk d + 1
  | .map entries => uptoBulkEntries entries + 1
  | .held _ => 1
def uptoBulkAll {H : Type} : List (DataW H) → Nat
  | [] => 0
  | d :: r => uptoBulk d + uptoBulkAll r
def uptoBulkEntries {H : Type} : List (Lit × DataW H) → Nat
  | [] => 0
  | x :: r => uptoBulkEntry x + uptoBulkEntries r
def uptoBulkEntry {H : Type} : Lit × DataW H → Nat
  | (.string bytes, d) => bytes.length + uptoBulk d + 1
  | (_, d) => uptoBulk d + 1
 end
def uptoSmall : (H : Type) → List (DataW H) → Bool := fun _ ds => decide (uptoBulkAll ds ≤ 1048576)
def OpenSpec.upto (s : _root_.Go.ChangeSpec) : _root_.Go.OpenSpec := { _root_.Go.OpenSpec.ofChange s with cond := some uptoSmall }

/-- 'plugboardlaw35.FieldsValues', WHERE WHAT IT READS IS OF BULK AT MOST 1048576: true; the input reads as it did. -/
def fieldsValuesUptoRow : OpenClaim := { program := "ythknbcfelkljcaa", sum := "e3fe9f7d2bffcccb96a6c3c99a8d19cc25647a6c47742ca3fdcca5643d7cc2f5", func := "plugboard/plugboardlaw35.FieldsValues", spec := "fieldsValues", unfollowed := true, recurses := true, apart := false, narrowed := true }
def FieldsValuesUptoSaid : Prop := fieldsValuesUptoRow.holds Try.pinned (OpenSpec.upto fieldsValuesSpec)

/-- 'plugboardlaw35.FieldsPut', WHERE WHAT IT READS IS OF BULK AT MOST 1048576: true; the input reads as it did. -/
def fieldsPutUptoRow : OpenClaim := { program := "ythknbcfelkljcaa", sum := "e3fe9f7d2bffcccb96a6c3c99a8d19cc25647a6c47742ca3fdcca5643d7cc2f5", func := "plugboard/plugboardlaw35.FieldsPut", spec := "fieldsPut", unfollowed := true, recurses := true, apart := false, narrowed := true }
def FieldsPutUptoSaid : Prop := fieldsPutUptoRow.holds Try.pinned (OpenSpec.upto fieldsPutSpec)

/-- 'plugboardlaw35.FieldsBack', WHERE WHAT IT READS IS OF BULK AT MOST 1048576: true; the input reads as it did. -/
def fieldsBackUptoRow : OpenClaim := { program := "ythknbcfelkljcaa", sum := "e3fe9f7d2bffcccb96a6c3c99a8d19cc25647a6c47742ca3fdcca5643d7cc2f5", func := "plugboard/plugboardlaw35.FieldsBack", spec := "fieldsBack", unfollowed := true, recurses := true, apart := false, narrowed := true }
def FieldsBackUptoSaid : Prop := fieldsBackUptoRow.holds Try.pinned (OpenSpec.upto fieldsBackSpec)

/-- 'plugboardlaw35.FieldsKnown', WHERE WHAT IT READS IS OF BULK AT MOST 1048576: true; the input reads as it did. -/
def fieldsKnownUptoRow : OpenClaim := { program := "ythknbcfelkljcaa", sum := "e3fe9f7d2bffcccb96a6c3c99a8d19cc25647a6c47742ca3fdcca5643d7cc2f5", func := "plugboard/plugboardlaw35.FieldsKnown", spec := "fieldsKnown", unfollowed := true, recurses := true, apart := false, narrowed := true }
def FieldsKnownUptoSaid : Prop := fieldsKnownUptoRow.holds Try.pinned (OpenSpec.upto fieldsKnownSpec)

end Rows
end Go.Proofs.Ythknbcfelkljcaa
