/-
  No cell of these rows narrows 'for every input' (looked for: loops, veiled, ifaces, maps, wideKeys, modest, calm, conditions, laid).
  DERIVED. THE GIVEN ROWS OF THIS SEAT. 4 by the template 'for every input the law returns true; each argument reads behind the call as it read before'; 0 by the template 'total and deterministic' (their statements: YtlbaijkolglheaaTotals.lean).
  GIVEN WITH THE SEED: the statements are not yours to turn. If you find one false, say at which input.
  Laid BY PROGRAM, IN A SANDBOX (cutbox-rows.mjs): the forced cells as the released guide's own fill.sh prints them over the translation fccf491c33cbc53c… (all of the seat's roots in one cut). By AI agents, Wed Nov 11 2026. No macro, syntax, notation, axiom, sorry.
-/
import Derived.Test.YtlbaijkolglheaaChecked
import GoSem.Claim
import GoSem.ClaimJoined
import GoSem.ClaimMapViews
import Derived.JoinedTies
import Derived.KernelRfl
namespace Go.Proofs.Ytlbaijkolglheaa
/- THE CELL 'sum', in the pinned program and in every row, IS THE sha256 OF THE DUMP (.gsa) THAT YtlbaijkolglheaaProg.lean LOADS. Nothing in Lean hashes anything: it is a label: what it is worth is what the hold of that sum in a sandbox is worth. -/
noncomputable def Try.pinned : Pinned := { name := "ytlbaijkolglheaa", sum := "fccf491c33cbc53c2a0774d3548204557505a8bd4634c37f14971213bccef3e4", checked := Try.checked }
namespace Rows
def none {H : Type} : Left H := { results := [], args := [] }

/-- 'plugboardlaw38.WrappersBlocks': WHATEVER THE INPUT: true; the input reads as it did. -/
def wrappersBlocksSpec : ChangeSpec := { name := "wrappersBlocks", fn := fun _ => fun
  | [d1, d2, d3] => { results := [.lit (.bool true)], args := [d1, d2, d3] }
  | _ => none }
def wrappersBlocksRow : OpenClaim := { program := "ytlbaijkolglheaa", sum := "fccf491c33cbc53c2a0774d3548204557505a8bd4634c37f14971213bccef3e4", func := "plugboard/plugboardlaw38.WrappersBlocks", spec := "wrappersBlocks", unfollowed := true, recurses := true, apart := false }
def WrappersBlocksSaid : Prop := wrappersBlocksRow.holds Try.pinned (OpenSpec.ofChange wrappersBlocksSpec)

/-- ITS FALSE NEIGHBOUR: 'it returns false'. Refute it at one input. -/
def wrappersBlocksWrong : ChangeSpec := { name := "wrappersBlocks", fn := fun _ => fun
  | [d1, d2, d3] => { results := [.lit (.bool false)], args := [d1, d2, d3] }
  | _ => none }
def WrappersBlocksWrongFalsely : Prop := wrappersBlocksRow.holds Try.pinned (OpenSpec.ofChange wrappersBlocksWrong)

/-- 'plugboardlaw38.WrappersStatuses': WHATEVER THE INPUT: true; the input reads as it did. -/
def wrappersStatusesSpec : ChangeSpec := { name := "wrappersStatuses", fn := fun _ => fun
  | [d1, d2] => { results := [.lit (.bool true)], args := [d1, d2] }
  | _ => none }
def wrappersStatusesRow : OpenClaim := { program := "ytlbaijkolglheaa", sum := "fccf491c33cbc53c2a0774d3548204557505a8bd4634c37f14971213bccef3e4", func := "plugboard/plugboardlaw38.WrappersStatuses", spec := "wrappersStatuses", unfollowed := true, recurses := true, apart := false }
def WrappersStatusesSaid : Prop := wrappersStatusesRow.holds Try.pinned (OpenSpec.ofChange wrappersStatusesSpec)

/-- ITS FALSE NEIGHBOUR: 'it returns false'. Refute it at one input. -/
def wrappersStatusesWrong : ChangeSpec := { name := "wrappersStatuses", fn := fun _ => fun
  | [d1, d2] => { results := [.lit (.bool false)], args := [d1, d2] }
  | _ => none }
def WrappersStatusesWrongFalsely : Prop := wrappersStatusesRow.holds Try.pinned (OpenSpec.ofChange wrappersStatusesWrong)

/-- 'plugboardlaw38.WrappersHost': WHATEVER THE INPUT: true; the input reads as it did. -/
def wrappersHostSpec : ChangeSpec := { name := "wrappersHost", fn := fun _ => fun
  | [d1, d2] => { results := [.lit (.bool true)], args := [d1, d2] }
  | _ => none }
def wrappersHostRow : OpenClaim := { program := "ytlbaijkolglheaa", sum := "fccf491c33cbc53c2a0774d3548204557505a8bd4634c37f14971213bccef3e4", func := "plugboard/plugboardlaw38.WrappersHost", spec := "wrappersHost", unfollowed := true, recurses := true, apart := false }
def WrappersHostSaid : Prop := wrappersHostRow.holds Try.pinned (OpenSpec.ofChange wrappersHostSpec)

/-- ITS FALSE NEIGHBOUR: 'it returns false'. Refute it at one input. -/
def wrappersHostWrong : ChangeSpec := { name := "wrappersHost", fn := fun _ => fun
  | [d1, d2] => { results := [.lit (.bool false)], args := [d1, d2] }
  | _ => none }
def WrappersHostWrongFalsely : Prop := wrappersHostRow.holds Try.pinned (OpenSpec.ofChange wrappersHostWrong)

/-- 'plugboardlaw38.WrappersWrong': WHATEVER THE INPUT: true; the input reads as it did. -/
def wrappersWrongSpec : ChangeSpec := { name := "wrappersWrong", fn := fun _ => fun
  | [d1, d2, d3] => { results := [.lit (.bool true)], args := [d1, d2, d3] }
  | _ => none }
def wrappersWrongRow : OpenClaim := { program := "ytlbaijkolglheaa", sum := "fccf491c33cbc53c2a0774d3548204557505a8bd4634c37f14971213bccef3e4", func := "plugboard/plugboardlaw38.WrappersWrong", spec := "wrappersWrong", unfollowed := true, recurses := true, apart := false }
def WrappersWrongSaid : Prop := wrappersWrongRow.holds Try.pinned (OpenSpec.ofChange wrappersWrongSpec)

/-- ITS FALSE NEIGHBOUR: 'it returns false'. Refute it at one input. -/
def wrappersWrongWrong : ChangeSpec := { name := "wrappersWrong", fn := fun _ => fun
  | [d1, d2, d3] => { results := [.lit (.bool false)], args := [d1, d2, d3] }
  | _ => none }
def WrappersWrongWrongFalsely : Prop := wrappersWrongRow.holds Try.pinned (OpenSpec.ofChange wrappersWrongWrong)

/- THE SECOND FORM. 'bulk': how many values and letters a reading holds, each counted each time it is reached (what is shared counts as often as it is met; a slice's spare places count too). A statement '..UptoSaid' is the law's where the arguments, and the package variables that the reading takes, are together of bulk at most 1048576: NARROWER than '..Said'. Prove '..Said' where nothing that the law and all that it calls make is longer than what came in: it says more and counts as full. Else prove '..UptoSaid'. A law counts once. -/
mutual
def uptoBulk {H : Type} : DataW H → Nat
  | .lit (.string bytes) => bytes.length + 1
  | .lit _ => 1
  | .nil => 1
  | .ptr d => uptoBulk d + 1
  | .slice elems spare => uptoBulkAll elems + uptoBulkAll spare + 1
  | .agg parts => uptoBulkAll parts + 1
  | .iface _ d => uptoBulk d + 1
  | .map entries => uptoBulkEntries entries + 1
  | .held _ => 1
def uptoBulkAll {H : Type} : List (DataW H) → Nat
  | [] => 0
  | d :: r => uptoBulk d + uptoBulkAll r
def uptoBulkEntries {H : Type} : List (Lit × DataW H) → Nat
  | [] => 0
  | x :: r => uptoBulkEntry x + uptoBulkEntries r
def uptoBulkEntry {H : Type} : Lit × DataW H → Nat
  | (.string bytes, d) => bytes.length + uptoBulk d + 1
  | (_, d) => uptoBulk d + 1
 end
def uptoSmall : (H : Type) → List (DataW H) → Bool := fun _ ds => decide (uptoBulkAll ds ≤ 1048576)
def OpenSpec.upto (s : _root_.Go.ChangeSpec) : _root_.Go.OpenSpec := { _root_.Go.OpenSpec.ofChange s with cond := some uptoSmall }

/-- 'plugboardlaw38.WrappersBlocks', WHERE WHAT IT READS IS OF BULK AT MOST 1048576: true; the input reads as it did. -/
def wrappersBlocksUptoRow : OpenClaim := { program := "ytlbaijkolglheaa", sum := "fccf491c33cbc53c2a0774d3548204557505a8bd4634c37f14971213bccef3e4", func := "plugboard/plugboardlaw38.WrappersBlocks", spec := "wrappersBlocks", unfollowed := true, recurses := true, apart := false, narrowed := true }
def WrappersBlocksUptoSaid : Prop := wrappersBlocksUptoRow.holds Try.pinned (OpenSpec.upto wrappersBlocksSpec)

/-- 'plugboardlaw38.WrappersStatuses', WHERE WHAT IT READS IS OF BULK AT MOST 1048576: true; the input reads as it did. -/
def wrappersStatusesUptoRow : OpenClaim := { program := "ytlbaijkolglheaa", sum := "fccf491c33cbc53c2a0774d3548204557505a8bd4634c37f14971213bccef3e4", func := "plugboard/plugboardlaw38.WrappersStatuses", spec := "wrappersStatuses", unfollowed := true, recurses := true, apart := false, narrowed := true }
def WrappersStatusesUptoSaid : Prop := wrappersStatusesUptoRow.holds Try.pinned (OpenSpec.upto wrappersStatusesSpec)

/-- 'plugboardlaw38.WrappersHost', WHERE WHAT IT READS IS OF BULK AT MOST 1048576: true; the input reads as it did. -/
def wrappersHostUptoRow : OpenClaim := { program := "ytlbaijkolglheaa", sum := "fccf491c33cbc53c2a0774d3548204557505a8bd4634c37f14971213bccef3e4", func := "plugboard/plugboardlaw38.WrappersHost", spec := "wrappersHost", unfollowed := true, recurses := true, apart := false, narrowed := true }
def WrappersHostUptoSaid : Prop := wrappersHostUptoRow.holds Try.pinned (OpenSpec.upto wrappersHostSpec)

/-- 'plugboardlaw38.WrappersWrong', WHERE WHAT IT READS IS OF BULK AT MOST 1048576: true; the input reads as it did. -/
def wrappersWrongUptoRow : OpenClaim := { program := "ytlbaijkolglheaa", sum := "fccf491c33cbc53c2a0774d3548204557505a8bd4634c37f14971213bccef3e4", func := "plugboard/plugboardlaw38.WrappersWrong", spec := "wrappersWrong", unfollowed := true, recurses := true, apart := false, narrowed := true }
def WrappersWrongUptoSaid : Prop := wrappersWrongUptoRow.holds Try.pinned (OpenSpec.upto wrappersWrongSpec)

end Rows
end Go.Proofs.Ytlbaijkolglheaa
