/-
  No cell of these rows narrows 'for every input' (looked for: loops, veiled, ifaces, maps, wideKeys, modest, calm, conditions, laid).
  DERIVED. THE GIVEN ROWS OF THIS SEAT. 6 by the template 'for every input the law returns true; each argument reads behind the call as it read before'; 0 by the template 'total and deterministic' (their statements: YtmcpcdmonglkjaaTotals.lean).
  GIVEN WITH THE SEED: the statements are not yours to turn. If you find one false, say at which input.
  Laid BY PROGRAM, IN A SANDBOX (cutbox-rows.mjs): the forced cells as the released guide's own fill.sh prints them over the translation 84bc4922f53b385e… (all of the seat's roots in one cut). By AI agents, Wed Nov 11 2026. No macro, syntax, notation, axiom, sorry.
-/
import Derived.Test.YtmcpcdmonglkjaaChecked
import GoSem.Claim
import GoSem.ClaimJoined
import GoSem.ClaimMapViews
import Derived.JoinedTies
import Derived.KernelRfl
namespace Go.Proofs.Ytmcpcdmonglkjaa
/- THE CELL 'sum', in the pinned program and in every row, IS THE sha256 OF THE DUMP (.gsa) THAT YtmcpcdmonglkjaaProg.lean LOADS. Nothing in Lean hashes anything: it is a label: what it is worth is what the hold of that sum in a sandbox is worth. -/
noncomputable def Try.pinned : Pinned := { name := "ytmcpcdmonglkjaa", sum := "84bc4922f53b385e9c1c4efc6ffd8e493692fc177800ab4bc56b88422373a595", checked := Try.checked }
namespace Rows
def none {H : Type} : Left H := { results := [], args := [] }

/-- 'plugboardlaw31.EventsFull': WHATEVER THE INPUT: true; the input reads as it did. -/
def eventsFullSpec : ChangeSpec := { name := "eventsFull", fn := fun _ => fun
  | [d] => { results := [.lit (.bool true)], args := [d] }
  | _ => none }
def eventsFullRow : OpenClaim := { program := "ytmcpcdmonglkjaa", sum := "84bc4922f53b385e9c1c4efc6ffd8e493692fc177800ab4bc56b88422373a595", func := "plugboard/plugboardlaw31.EventsFull", spec := "eventsFull", unfollowed := true, recurses := true, apart := false }
def EventsFullSaid : Prop := eventsFullRow.holds Try.pinned (OpenSpec.ofChange eventsFullSpec)

/-- ITS FALSE NEIGHBOUR: 'it returns false'. Refute it at one input. -/
def eventsFullWrong : ChangeSpec := { name := "eventsFull", fn := fun _ => fun
  | [d] => { results := [.lit (.bool false)], args := [d] }
  | _ => none }
def EventsFullWrongFalsely : Prop := eventsFullRow.holds Try.pinned (OpenSpec.ofChange eventsFullWrong)

/-- 'plugboardlaw31.EventsApply': WHATEVER THE INPUT: true; the input reads as it did. -/
def eventsApplySpec : ChangeSpec := { name := "eventsApply", fn := fun _ => fun
  | [d1, d2] => { results := [.lit (.bool true)], args := [d1, d2] }
  | _ => none }
def eventsApplyRow : OpenClaim := { program := "ytmcpcdmonglkjaa", sum := "84bc4922f53b385e9c1c4efc6ffd8e493692fc177800ab4bc56b88422373a595", func := "plugboard/plugboardlaw31.EventsApply", spec := "eventsApply", unfollowed := true, recurses := true, apart := false }
def EventsApplySaid : Prop := eventsApplyRow.holds Try.pinned (OpenSpec.ofChange eventsApplySpec)

/-- ITS FALSE NEIGHBOUR: 'it returns false'. Refute it at one input. -/
def eventsApplyWrong : ChangeSpec := { name := "eventsApply", fn := fun _ => fun
  | [d1, d2] => { results := [.lit (.bool false)], args := [d1, d2] }
  | _ => none }
def EventsApplyWrongFalsely : Prop := eventsApplyRow.holds Try.pinned (OpenSpec.ofChange eventsApplyWrong)

/-- 'plugboardlaw31.EventsPlay': WHATEVER THE INPUT: true; the input reads as it did. -/
def eventsPlaySpec : ChangeSpec := { name := "eventsPlay", fn := fun _ => fun
  | [d1, d2] => { results := [.lit (.bool true)], args := [d1, d2] }
  | _ => none }
def eventsPlayRow : OpenClaim := { program := "ytmcpcdmonglkjaa", sum := "84bc4922f53b385e9c1c4efc6ffd8e493692fc177800ab4bc56b88422373a595", func := "plugboard/plugboardlaw31.EventsPlay", spec := "eventsPlay", unfollowed := true, recurses := true, apart := false }
def EventsPlaySaid : Prop := eventsPlayRow.holds Try.pinned (OpenSpec.ofChange eventsPlaySpec)

/-- ITS FALSE NEIGHBOUR: 'it returns false'. Refute it at one input. -/
def eventsPlayWrong : ChangeSpec := { name := "eventsPlay", fn := fun _ => fun
  | [d1, d2] => { results := [.lit (.bool false)], args := [d1, d2] }
  | _ => none }
def EventsPlayWrongFalsely : Prop := eventsPlayRow.holds Try.pinned (OpenSpec.ofChange eventsPlayWrong)

/-- 'plugboardlaw31.EventsLog': WHATEVER THE INPUT: true; the input reads as it did. -/
def eventsLogSpec : ChangeSpec := { name := "eventsLog", fn := fun _ => fun
  | [d1, d2] => { results := [.lit (.bool true)], args := [d1, d2] }
  | _ => none }
def eventsLogRow : OpenClaim := { program := "ytmcpcdmonglkjaa", sum := "84bc4922f53b385e9c1c4efc6ffd8e493692fc177800ab4bc56b88422373a595", func := "plugboard/plugboardlaw31.EventsLog", spec := "eventsLog", unfollowed := true, recurses := true, apart := false }
def EventsLogSaid : Prop := eventsLogRow.holds Try.pinned (OpenSpec.ofChange eventsLogSpec)

/-- ITS FALSE NEIGHBOUR: 'it returns false'. Refute it at one input. -/
def eventsLogWrong : ChangeSpec := { name := "eventsLog", fn := fun _ => fun
  | [d1, d2] => { results := [.lit (.bool false)], args := [d1, d2] }
  | _ => none }
def EventsLogWrongFalsely : Prop := eventsLogRow.holds Try.pinned (OpenSpec.ofChange eventsLogWrong)

/-- 'plugboardlaw31.EventsDiff': WHATEVER THE INPUT: true; the input reads as it did. -/
def eventsDiffSpec : ChangeSpec := { name := "eventsDiff", fn := fun _ => fun
  | [d1, d2, d3] => { results := [.lit (.bool true)], args := [d1, d2, d3] }
  | _ => none }
def eventsDiffRow : OpenClaim := { program := "ytmcpcdmonglkjaa", sum := "84bc4922f53b385e9c1c4efc6ffd8e493692fc177800ab4bc56b88422373a595", func := "plugboard/plugboardlaw31.EventsDiff", spec := "eventsDiff", unfollowed := true, recurses := true, apart := false }
def EventsDiffSaid : Prop := eventsDiffRow.holds Try.pinned (OpenSpec.ofChange eventsDiffSpec)

/-- ITS FALSE NEIGHBOUR: 'it returns false'. Refute it at one input. -/
def eventsDiffWrong : ChangeSpec := { name := "eventsDiff", fn := fun _ => fun
  | [d1, d2, d3] => { results := [.lit (.bool false)], args := [d1, d2, d3] }
  | _ => none }
def EventsDiffWrongFalsely : Prop := eventsDiffRow.holds Try.pinned (OpenSpec.ofChange eventsDiffWrong)

/-- 'plugboardlaw31.EventsCheck': WHATEVER THE INPUT: true; the input reads as it did. -/
def eventsCheckSpec : ChangeSpec := { name := "eventsCheck", fn := fun _ => fun
  | [d1, d2, d3] => { results := [.lit (.bool true)], args := [d1, d2, d3] }
  | _ => none }
def eventsCheckRow : OpenClaim := { program := "ytmcpcdmonglkjaa", sum := "84bc4922f53b385e9c1c4efc6ffd8e493692fc177800ab4bc56b88422373a595", func := "plugboard/plugboardlaw31.EventsCheck", spec := "eventsCheck", unfollowed := true, recurses := true, apart := false }
def EventsCheckSaid : Prop := eventsCheckRow.holds Try.pinned (OpenSpec.ofChange eventsCheckSpec)

/-- ITS FALSE NEIGHBOUR: 'it returns false'. Refute it at one input. -/
def eventsCheckWrong : ChangeSpec := { name := "eventsCheck", fn := fun _ => fun
  | [d1, d2, d3] => { results := [.lit (.bool false)], args := [d1, d2, d3] }
  | _ => none }
def EventsCheckWrongFalsely : Prop := eventsCheckRow.holds Try.pinned (OpenSpec.ofChange eventsCheckWrong)

/- THE SECOND FORM. 'bulk': how many values and letters a reading holds, each counted each time it is reached (what is shared counts as often as it is met; a slice's spare places count too). A statement '..UptoSaid' is the law's where the arguments, and the package variables that the reading takes, are together of bulk at most 1048576: NARROWER than '..Said'. Prove '..Said' where nothing that the law and all that it calls make is longer than what came in: it says more and counts as full. Else prove '..UptoSaid'. A law counts once. -/
mutual
def uptoBulk {H : Type} : DataW H → Nat
  | .lit (.string bytes) => bytes.length + 1
  | .lit _ => 1
  | .nil => 1
  | .ptr d => uptoBulk d + 1
  | .slice elems spare => uptoBulkAll elems + uptoBulkAll spare + 1
  | .agg parts => uptoBulkAll parts + 1
  | .iface _ d => uptoBulk d + 1
  | .map entries => uptoBulkEntries entries + 1
  | .held _ => 1
def uptoBulkAll {H : Type} : List (DataW H) → Nat
  | [] => 0
  | d :: r => uptoBulk d + uptoBulkAll r
def uptoBulkEntries {H : Type} : List (Lit × DataW H) → Nat
  | [] => 0
  | x :: r => uptoBulkEntry x + uptoBulkEntries r
def uptoBulkEntry {H : Type} : Lit × DataW H → Nat
  | (.string bytes, d) => bytes.length + uptoBulk d + 1
  | (_, d) => uptoBulk d + 1
 end
def uptoSmall : (H : Type) → List (DataW H) → Bool := fun _ ds => decide (uptoBulkAll ds ≤ 1048576)
def OpenSpec.upto (s : _root_.Go.ChangeSpec) : _root_.Go.OpenSpec := { _root_.Go.OpenSpec.ofChange s with cond := some uptoSmall }

/-- 'plugboardlaw31.EventsFull', WHERE WHAT IT READS IS OF BULK AT MOST 1048576: true; the input reads as it did. -/
def eventsFullUptoRow : OpenClaim := { program := "ytmcpcdmonglkjaa", sum := "84bc4922f53b385e9c1c4efc6ffd8e493692fc177800ab4bc56b88422373a595", func := "plugboard/plugboardlaw31.EventsFull", spec := "eventsFull", unfollowed := true, recurses := true, apart := false, narrowed := true }
def EventsFullUptoSaid : Prop := eventsFullUptoRow.holds Try.pinned (OpenSpec.upto eventsFullSpec)

/-- 'plugboardlaw31.EventsApply', WHERE WHAT IT READS IS OF BULK AT MOST 1048576: true; the input reads as it did. -/
def eventsApplyUptoRow : OpenClaim := { program := "ytmcpcdmonglkjaa", sum := "84bc4922f53b385e9c1c4efc6ffd8e493692fc177800ab4bc56b88422373a595", func := "plugboard/plugboardlaw31.EventsApply", spec := "eventsApply", unfollowed := true, recurses := true, apart := false, narrowed := true }
def EventsApplyUptoSaid : Prop := eventsApplyUptoRow.holds Try.pinned (OpenSpec.upto eventsApplySpec)

/-- 'plugboardlaw31.EventsPlay', WHERE WHAT IT READS IS OF BULK AT MOST 1048576: true; the input reads as it did. -/
def eventsPlayUptoRow : OpenClaim := { program := "ytmcpcdmonglkjaa", sum := "84bc4922f53b385e9c1c4efc6ffd8e493692fc177800ab4bc56b88422373a595", func := "plugboard/plugboardlaw31.EventsPlay", spec := "eventsPlay", unfollowed := true, recurses := true, apart := false, narrowed := true }
def EventsPlayUptoSaid : Prop := eventsPlayUptoRow.holds Try.pinned (OpenSpec.upto eventsPlaySpec)

/-- 'plugboardlaw31.EventsLog', WHERE WHAT IT READS IS OF BULK AT MOST 1048576: true; the input reads as it did. -/
def eventsLogUptoRow : OpenClaim := { program := "ytmcpcdmonglkjaa", sum := "84bc4922f53b385e9c1c4efc6ffd8e493692fc177800ab4bc56b88422373a595", func := "plugboard/plugboardlaw31.EventsLog", spec := "eventsLog", unfollowed := true, recurses := true, apart := false, narrowed := true }
def EventsLogUptoSaid : Prop := eventsLogUptoRow.holds Try.pinned (OpenSpec.upto eventsLogSpec)

/-- 'plugboardlaw31.EventsDiff', WHERE WHAT IT READS IS OF BULK AT MOST 1048576: true; the input reads as it did. -/
def eventsDiffUptoRow : OpenClaim := { program := "ytmcpcdmonglkjaa", sum := "84bc4922f53b385e9c1c4efc6ffd8e493692fc177800ab4bc56b88422373a595", func := "plugboard/plugboardlaw31.EventsDiff", spec := "eventsDiff", unfollowed := true, recurses := true, apart := false, narrowed := true }
def EventsDiffUptoSaid : Prop := eventsDiffUptoRow.holds Try.pinned (OpenSpec.upto eventsDiffSpec)

/-- 'plugboardlaw31.EventsCheck', WHERE WHAT IT READS IS OF BULK AT MOST 1048576: true; the input reads as it did. -/
def eventsCheckUptoRow : OpenClaim := { program := "ytmcpcdmonglkjaa", sum := "84bc4922f53b385e9c1c4efc6ffd8e493692fc177800ab4bc56b88422373a595", func := "plugboard/plugboardlaw31.EventsCheck", spec := "eventsCheck", unfollowed := true, recurses := true, apart := false, narrowed := true }
def EventsCheckUptoSaid : Prop := eventsCheckUptoRow.holds Try.pinned (OpenSpec.upto eventsCheckSpec)

end Rows
end Go.Proofs.Ytmcpcdmonglkjaa
