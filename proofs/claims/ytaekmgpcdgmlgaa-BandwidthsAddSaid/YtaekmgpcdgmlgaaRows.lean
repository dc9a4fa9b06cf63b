/-
  No cell of these rows narrows 'for every input' (looked for: loops, veiled, ifaces, maps, wideKeys, modest, calm, conditions, laid).
  DERIVED. THE GIVEN ROWS OF THIS SEAT. 6 by the template 'for every input the law returns true; each argument reads behind the call as it read before'; 0 by the template 'total and deterministic' (their statements: YtaekmgpcdgmlgaaTotals.lean).
  GIVEN WITH THE SEED: the statements are not yours to turn. If you find one false, say at which input.
  Laid BY PROGRAM, IN A SANDBOX (cutbox-rows.mjs): the forced cells as the released guide's own fill.sh prints them over the translation b52a0087063f8630… (all of the seat's roots in one cut). By AI agents, Wed Nov 11 2026. No macro, syntax, notation, axiom, sorry.
-/
import Derived.Test.YtaekmgpcdgmlgaaChecked
import GoSem.Claim
import GoSem.ClaimJoined
import GoSem.ClaimMapViews
import Derived.JoinedTies
import Derived.KernelRfl
namespace Go.Proofs.Ytaekmgpcdgmlgaa
/- THE CELL 'sum', in the pinned program and in every row, IS THE sha256 OF THE DUMP (.gsa) THAT YtaekmgpcdgmlgaaProg.lean LOADS. Nothing in Lean hashes anything: it is a label: what it is worth is what the hold of that sum in a sandbox is worth. -/
noncomputable def Try.pinned : Pinned := { name := "ytaekmgpcdgmlgaa", sum := "b52a0087063f8630da76e3ee58351fa95a2e3f804a25e4feb9c376646aff9daa", checked := Try.checked }
namespace Rows
def none {H : Type} : Left H := { results := [], args := [] }

/-- 'plugboardlaw24.BandwidthsAdd': WHATEVER THE INPUT: true; the input reads as it did. -/
def bandwidthsAddSpec : ChangeSpec := { name := "bandwidthsAdd", fn := fun _ => fun
  | [d1, d2] => { results := [.lit (.bool true)], args := [d1, d2] }
  | _ => none }
def bandwidthsAddRow : OpenClaim := { program := "ytaekmgpcdgmlgaa", sum := "b52a0087063f8630da76e3ee58351fa95a2e3f804a25e4feb9c376646aff9daa", func := "plugboard/plugboardlaw24.BandwidthsAdd", spec := "bandwidthsAdd", unfollowed := true, recurses := true, apart := false }
def BandwidthsAddSaid : Prop := bandwidthsAddRow.holds Try.pinned (OpenSpec.ofChange bandwidthsAddSpec)

/-- ITS FALSE NEIGHBOUR: 'it returns false'. Refute it at one input. -/
def bandwidthsAddWrong : ChangeSpec := { name := "bandwidthsAdd", fn := fun _ => fun
  | [d1, d2] => { results := [.lit (.bool false)], args := [d1, d2] }
  | _ => none }
def BandwidthsAddWrongFalsely : Prop := bandwidthsAddRow.holds Try.pinned (OpenSpec.ofChange bandwidthsAddWrong)

/-- 'plugboardlaw24.BandwidthsCheck': WHATEVER THE INPUT: true; the input reads as it did. -/
def bandwidthsCheckSpec : ChangeSpec := { name := "bandwidthsCheck", fn := fun _ => fun
  | [d1, d2, d3] => { results := [.lit (.bool true)], args := [d1, d2, d3] }
  | _ => none }
def bandwidthsCheckRow : OpenClaim := { program := "ytaekmgpcdgmlgaa", sum := "b52a0087063f8630da76e3ee58351fa95a2e3f804a25e4feb9c376646aff9daa", func := "plugboard/plugboardlaw24.BandwidthsCheck", spec := "bandwidthsCheck", unfollowed := true, recurses := true, apart := false }
def BandwidthsCheckSaid : Prop := bandwidthsCheckRow.holds Try.pinned (OpenSpec.ofChange bandwidthsCheckSpec)

/-- ITS FALSE NEIGHBOUR: 'it returns false'. Refute it at one input. -/
def bandwidthsCheckWrong : ChangeSpec := { name := "bandwidthsCheck", fn := fun _ => fun
  | [d1, d2, d3] => { results := [.lit (.bool false)], args := [d1, d2, d3] }
  | _ => none }
def BandwidthsCheckWrongFalsely : Prop := bandwidthsCheckRow.holds Try.pinned (OpenSpec.ofChange bandwidthsCheckWrong)

/-- 'plugboardlaw24.BandwidthsFull': WHATEVER THE INPUT: true; the input reads as it did. -/
def bandwidthsFullSpec : ChangeSpec := { name := "bandwidthsFull", fn := fun _ => fun
  | [d] => { results := [.lit (.bool true)], args := [d] }
  | _ => none }
def bandwidthsFullRow : OpenClaim := { program := "ytaekmgpcdgmlgaa", sum := "b52a0087063f8630da76e3ee58351fa95a2e3f804a25e4feb9c376646aff9daa", func := "plugboard/plugboardlaw24.BandwidthsFull", spec := "bandwidthsFull", unfollowed := true, recurses := true, apart := false }
def BandwidthsFullSaid : Prop := bandwidthsFullRow.holds Try.pinned (OpenSpec.ofChange bandwidthsFullSpec)

/-- ITS FALSE NEIGHBOUR: 'it returns false'. Refute it at one input. -/
def bandwidthsFullWrong : ChangeSpec := { name := "bandwidthsFull", fn := fun _ => fun
  | [d] => { results := [.lit (.bool false)], args := [d] }
  | _ => none }
def BandwidthsFullWrongFalsely : Prop := bandwidthsFullRow.holds Try.pinned (OpenSpec.ofChange bandwidthsFullWrong)

/-- 'plugboardlaw24.BandwidthsSums': WHATEVER THE INPUT: true; the input reads as it did. -/
def bandwidthsSumsSpec : ChangeSpec := { name := "bandwidthsSums", fn := fun _ => fun
  | [d1, d2, d3] => { results := [.lit (.bool true)], args := [d1, d2, d3] }
  | _ => none }
def bandwidthsSumsRow : OpenClaim := { program := "ytaekmgpcdgmlgaa", sum := "b52a0087063f8630da76e3ee58351fa95a2e3f804a25e4feb9c376646aff9daa", func := "plugboard/plugboardlaw24.BandwidthsSums", spec := "bandwidthsSums", unfollowed := true, recurses := true, apart := false }
def BandwidthsSumsSaid : Prop := bandwidthsSumsRow.holds Try.pinned (OpenSpec.ofChange bandwidthsSumsSpec)

/-- ITS FALSE NEIGHBOUR: 'it returns false'. Refute it at one input. -/
def bandwidthsSumsWrong : ChangeSpec := { name := "bandwidthsSums", fn := fun _ => fun
  | [d1, d2, d3] => { results := [.lit (.bool false)], args := [d1, d2, d3] }
  | _ => none }
def BandwidthsSumsWrongFalsely : Prop := bandwidthsSumsRow.holds Try.pinned (OpenSpec.ofChange bandwidthsSumsWrong)

/-- 'plugboardlaw24.BandwidthsRemove': WHATEVER THE INPUT: true; the input reads as it did. -/
def bandwidthsRemoveSpec : ChangeSpec := { name := "bandwidthsRemove", fn := fun _ => fun
  | [d1, d2, d3] => { results := [.lit (.bool true)], args := [d1, d2, d3] }
  | _ => none }
def bandwidthsRemoveRow : OpenClaim := { program := "ytaekmgpcdgmlgaa", sum := "b52a0087063f8630da76e3ee58351fa95a2e3f804a25e4feb9c376646aff9daa", func := "plugboard/plugboardlaw24.BandwidthsRemove", spec := "bandwidthsRemove", unfollowed := true, recurses := true, apart := false }
def BandwidthsRemoveSaid : Prop := bandwidthsRemoveRow.holds Try.pinned (OpenSpec.ofChange bandwidthsRemoveSpec)

/-- ITS FALSE NEIGHBOUR: 'it returns false'. Refute it at one input. -/
def bandwidthsRemoveWrong : ChangeSpec := { name := "bandwidthsRemove", fn := fun _ => fun
  | [d1, d2, d3] => { results := [.lit (.bool false)], args := [d1, d2, d3] }
  | _ => none }
def BandwidthsRemoveWrongFalsely : Prop := bandwidthsRemoveRow.holds Try.pinned (OpenSpec.ofChange bandwidthsRemoveWrong)

/-- 'plugboardlaw24.BandwidthsSafe': WHATEVER THE INPUT: true; the input reads as it did. -/
def bandwidthsSafeSpec : ChangeSpec := { name := "bandwidthsSafe", fn := fun _ => fun
  | [d1, d2] => { results := [.lit (.bool true)], args := [d1, d2] }
  | _ => none }
def bandwidthsSafeRow : OpenClaim := { program := "ytaekmgpcdgmlgaa", sum := "b52a0087063f8630da76e3ee58351fa95a2e3f804a25e4feb9c376646aff9daa", func := "plugboard/plugboardlaw24.BandwidthsSafe", spec := "bandwidthsSafe", unfollowed := true, recurses := true, apart := false }
def BandwidthsSafeSaid : Prop := bandwidthsSafeRow.holds Try.pinned (OpenSpec.ofChange bandwidthsSafeSpec)

/-- ITS FALSE NEIGHBOUR: 'it returns false'. Refute it at one input. -/
def bandwidthsSafeWrong : ChangeSpec := { name := "bandwidthsSafe", fn := fun _ => fun
  | [d1, d2] => { results := [.lit (.bool false)], args := [d1, d2] }
  | _ => none }
def BandwidthsSafeWrongFalsely : Prop := bandwidthsSafeRow.holds Try.pinned (OpenSpec.ofChange bandwidthsSafeWrong)

/- THE SECOND FORM. 'bulk': how many values and letters a reading holds, each counted each time it is reached (what is shared counts as often as it is met; a slice's spare places count too). A statement '..UptoSaid' is the law's where the arguments, and the package variables that the reading takes, are together of bulk at most 1048576: NARROWER than '..Said'. Prove '..Said' where nothing that the law and all that it calls make is longer than what came in: it says more and counts as full. Else prove '..UptoSaid'. A law counts once. -/
mutual
def uptoBulk {H : Type} : DataW H → Nat
  | .lit (.string bytes) => bytes.length + 1
  | .lit _ => 1
  | .nil => 1
  | .ptr d => uptoBulk d + 1
  | .slice elems spare => uptoBulkAll elems + uptoBulkAll spare + 1
  | .agg parts => uptoBulkAll parts + 1
  | .iface _ d => uptoBulk d + 1
  | .map entries => uptoBulkEntries entries + 1
  | .held _ => 1
def uptoBulkAll {H : Type} : List (DataW H) → Nat
  | [] => 0
  | d :: r => uptoBulk d + uptoBulkAll r
def uptoBulkEntries {H : Type} : List (Lit × DataW H) → Nat
  | [] => 0
  | x :: r => uptoBulkEntry x + uptoBulkEntries r
def uptoBulkEntry {H : Type} : Lit × DataW H → Nat
  | (.string bytes, d) => bytes.length + uptoBulk d + 1
  | (_, d) => uptoBulk d + 1
 end
def uptoSmall : (H : Type) → List (DataW H) → Bool := fun _ ds => decide (uptoBulkAll ds ≤ 1048576)
def OpenSpec.upto (s : _root_.Go.ChangeSpec) : _root_.Go.OpenSpec := { _root_.Go.OpenSpec.ofChange s with cond := some uptoSmall }

/-- 'plugboardlaw24.BandwidthsAdd', WHERE WHAT IT READS IS OF BULK AT MOST 1048576: true; the input reads as it did. -/
def bandwidthsAddUptoRow : OpenClaim := { program := "ytaekmgpcdgmlgaa", sum := "b52a0087063f8630da76e3ee58351fa95a2e3f804a25e4feb9c376646aff9daa", func := "plugboard/plugboardlaw24.BandwidthsAdd", spec := "bandwidthsAdd", unfollowed := true, recurses := true, apart := false, narrowed := true }
def BandwidthsAddUptoSaid : Prop := bandwidthsAddUptoRow.holds Try.pinned (OpenSpec.upto bandwidthsAddSpec)

/-- 'plugboardlaw24.BandwidthsCheck', WHERE WHAT IT READS IS OF BULK AT MOST 1048576: true; the input reads as it did. -/
def bandwidthsCheckUptoRow : OpenClaim := { program := "ytaekmgpcdgmlgaa", sum := "b52a0087063f8630da76e3ee58351fa95a2e3f804a25e4feb9c376646aff9daa", func := "plugboard/plugboardlaw24.BandwidthsCheck", spec := "bandwidthsCheck", unfollowed := true, recurses := true, apart := false, narrowed := true }
def BandwidthsCheckUptoSaid : Prop := bandwidthsCheckUptoRow.holds Try.pinned (OpenSpec.upto bandwidthsCheckSpec)

/-- 'plugboardlaw24.BandwidthsFull', WHERE WHAT IT READS IS OF BULK AT MOST 1048576: true; the input reads as it did. -/
def bandwidthsFullUptoRow : OpenClaim := { program := "ytaekmgpcdgmlgaa", sum := "b52a0087063f8630da76e3ee58351fa95a2e3f804a25e4feb9c376646aff9daa", func := "plugboard/plugboardlaw24.BandwidthsFull", spec := "bandwidthsFull", unfollowed := true, recurses := true, apart := false, narrowed := true }
def BandwidthsFullUptoSaid : Prop := bandwidthsFullUptoRow.holds Try.pinned (OpenSpec.upto bandwidthsFullSpec)

/-- 'plugboardlaw24.BandwidthsSums', WHERE WHAT IT READS IS OF BULK AT MOST 1048576: true; the input reads as it did. -/
def bandwidthsSumsUptoRow : OpenClaim := { program := "ytaekmgpcdgmlgaa", sum := "b52a0087063f8630da76e3ee58351fa95a2e3f804a25e4feb9c376646aff9daa", func := "plugboard/plugboardlaw24.BandwidthsSums", spec := "bandwidthsSums", unfollowed := true, recurses := true, apart := false, narrowed := true }
def BandwidthsSumsUptoSaid : Prop := bandwidthsSumsUptoRow.holds Try.pinned (OpenSpec.upto bandwidthsSumsSpec)

/-- 'plugboardlaw24.BandwidthsRemove', WHERE WHAT IT READS IS OF BULK AT MOST 1048576: true; the input reads as it did. -/
def bandwidthsRemoveUptoRow : OpenClaim := { program := "ytaekmgpcdgmlgaa", sum := "b52a0087063f8630da76e3ee58351fa95a2e3f804a25e4feb9c376646aff9daa", func := "plugboard/plugboardlaw24.BandwidthsRemove", spec := "bandwidthsRemove", unfollowed := true, recurses := true, apart := false, narrowed := true }
def BandwidthsRemoveUptoSaid : Prop := bandwidthsRemoveUptoRow.holds Try.pinned (OpenSpec.upto bandwidthsRemoveSpec)

/-- 'plugboardlaw24.BandwidthsSafe', WHERE WHAT IT READS IS OF BULK AT MOST 1048576: true; the input reads as it did. -/
def bandwidthsSafeUptoRow : OpenClaim := { program := "ytaekmgpcdgmlgaa", sum := "b52a0087063f8630da76e3ee58351fa95a2e3f804a25e4feb9c376646aff9daa", func := "plugboard/plugboardlaw24.BandwidthsSafe", spec := "bandwidthsSafe", unfollowed := true, recurses := true, apart := false, narrowed := true }
def BandwidthsSafeUptoSaid : Prop := bandwidthsSafeUptoRow.holds Try.pinned (OpenSpec.upto bandwidthsSafeSpec)

end Rows
end Go.Proofs.Ytaekmgpcdgmlgaa
