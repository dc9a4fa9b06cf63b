/-
  No cell of these rows narrows 'for every input' (looked for: loops, veiled, ifaces, maps, wideKeys, modest, calm, conditions, laid).
  DERIVED. THE GIVEN ROWS OF THIS SEAT. 5 by the template 'for every input the law returns true; each argument reads behind the call as it read before'; 0 by the template 'total and deterministic' (their statements: YtflieonbbggmhaaTotals.lean).
  GIVEN WITH THE SEED: the statements are not yours to turn. If you find one false, say at which input.
  Laid BY PROGRAM, IN A SANDBOX (cutbox-rows.mjs): the forced cells as the released guide's own fill.sh prints them over the translation 697a33be794cc620… (all of the seat's roots in one cut). By AI agents, Wed Nov 11 2026. No macro, syntax, notation, axiom, sorry.
-/
import Derived.Test.YtflieonbbggmhaaChecked
import GoSem.Claim
import GoSem.ClaimJoined
import GoSem.ClaimMapViews
import Derived.JoinedTies
import Derived.KernelRfl
namespace Go.Proofs.Ytflieonbbggmhaa
/- THE CELL 'sum', in the pinned program and in every row, IS THE sha256 OF THE DUMP (.gsa) THAT YtflieonbbggmhaaProg.lean LOADS. Nothing in Lean hashes anything: it is a label: what it is worth is what the hold of that sum in a sandbox is worth. -/
noncomputable def Try.pinned : Pinned := { name := "ytflieonbbggmhaa", sum := "697a33be794cc620656dea9c2a72fb65c8e7beb92140738944dbefaec44422d5", checked := Try.checked }
namespace Rows
def none {H : Type} : Left H := { results := [], args := [] }

/-- 'plugboardlaw32.SuspendsAwake': WHATEVER THE INPUT: true; the input reads as it did. -/
def suspendsAwakeSpec : ChangeSpec := { name := "suspendsAwake", fn := fun _ => fun
  | [d] => { results := [.lit (.bool true)], args := [d] }
  | _ => none }
def suspendsAwakeRow : OpenClaim := { program := "ytflieonbbggmhaa", sum := "697a33be794cc620656dea9c2a72fb65c8e7beb92140738944dbefaec44422d5", func := "plugboard/plugboardlaw32.SuspendsAwake", spec := "suspendsAwake", unfollowed := true, recurses := true, apart := false }
def SuspendsAwakeSaid : Prop := suspendsAwakeRow.holds Try.pinned (OpenSpec.ofChange suspendsAwakeSpec)

/-- ITS FALSE NEIGHBOUR: 'it returns false'. Refute it at one input. -/
def suspendsAwakeWrong : ChangeSpec := { name := "suspendsAwake", fn := fun _ => fun
  | [d] => { results := [.lit (.bool false)], args := [d] }
  | _ => none }
def SuspendsAwakeWrongFalsely : Prop := suspendsAwakeRow.holds Try.pinned (OpenSpec.ofChange suspendsAwakeWrong)

/-- 'plugboardlaw32.SuspendsQuiet': WHATEVER THE INPUT: true; the input reads as it did. -/
def suspendsQuietSpec : ChangeSpec := { name := "suspendsQuiet", fn := fun _ => fun
  | [d1, d2] => { results := [.lit (.bool true)], args := [d1, d2] }
  | _ => none }
def suspendsQuietRow : OpenClaim := { program := "ytflieonbbggmhaa", sum := "697a33be794cc620656dea9c2a72fb65c8e7beb92140738944dbefaec44422d5", func := "plugboard/plugboardlaw32.SuspendsQuiet", spec := "suspendsQuiet", unfollowed := true, recurses := true, apart := false }
def SuspendsQuietSaid : Prop := suspendsQuietRow.holds Try.pinned (OpenSpec.ofChange suspendsQuietSpec)

/-- ITS FALSE NEIGHBOUR: 'it returns false'. Refute it at one input. -/
def suspendsQuietWrong : ChangeSpec := { name := "suspendsQuiet", fn := fun _ => fun
  | [d1, d2] => { results := [.lit (.bool false)], args := [d1, d2] }
  | _ => none }
def SuspendsQuietWrongFalsely : Prop := suspendsQuietRow.holds Try.pinned (OpenSpec.ofChange suspendsQuietWrong)

/-- 'plugboardlaw32.SuspendsCheck': WHATEVER THE INPUT: true; the input reads as it did. -/
def suspendsCheckSpec : ChangeSpec := { name := "suspendsCheck", fn := fun _ => fun
  | [d1, d2, d3] => { results := [.lit (.bool true)], args := [d1, d2, d3] }
  | _ => none }
def suspendsCheckRow : OpenClaim := { program := "ytflieonbbggmhaa", sum := "697a33be794cc620656dea9c2a72fb65c8e7beb92140738944dbefaec44422d5", func := "plugboard/plugboardlaw32.SuspendsCheck", spec := "suspendsCheck", unfollowed := true, recurses := true, apart := false }
def SuspendsCheckSaid : Prop := suspendsCheckRow.holds Try.pinned (OpenSpec.ofChange suspendsCheckSpec)

/-- ITS FALSE NEIGHBOUR: 'it returns false'. Refute it at one input. -/
def suspendsCheckWrong : ChangeSpec := { name := "suspendsCheck", fn := fun _ => fun
  | [d1, d2, d3] => { results := [.lit (.bool false)], args := [d1, d2, d3] }
  | _ => none }
def SuspendsCheckWrongFalsely : Prop := suspendsCheckRow.holds Try.pinned (OpenSpec.ofChange suspendsCheckWrong)

/-- 'plugboardlaw32.SuspendsUse': WHATEVER THE INPUT: true; the input reads as it did. -/
def suspendsUseSpec : ChangeSpec := { name := "suspendsUse", fn := fun _ => fun
  | [d1, d2] => { results := [.lit (.bool true)], args := [d1, d2] }
  | _ => none }
def suspendsUseRow : OpenClaim := { program := "ytflieonbbggmhaa", sum := "697a33be794cc620656dea9c2a72fb65c8e7beb92140738944dbefaec44422d5", func := "plugboard/plugboardlaw32.SuspendsUse", spec := "suspendsUse", unfollowed := true, recurses := true, apart := false }
def SuspendsUseSaid : Prop := suspendsUseRow.holds Try.pinned (OpenSpec.ofChange suspendsUseSpec)

/-- ITS FALSE NEIGHBOUR: 'it returns false'. Refute it at one input. -/
def suspendsUseWrong : ChangeSpec := { name := "suspendsUse", fn := fun _ => fun
  | [d1, d2] => { results := [.lit (.bool false)], args := [d1, d2] }
  | _ => none }
def SuspendsUseWrongFalsely : Prop := suspendsUseRow.holds Try.pinned (OpenSpec.ofChange suspendsUseWrong)

/-- 'plugboardlaw32.SuspendsFull': WHATEVER THE INPUT: true; the input reads as it did. -/
def suspendsFullSpec : ChangeSpec := { name := "suspendsFull", fn := fun _ => fun
  | [d] => { results := [.lit (.bool true)], args := [d] }
  | _ => none }
def suspendsFullRow : OpenClaim := { program := "ytflieonbbggmhaa", sum := "697a33be794cc620656dea9c2a72fb65c8e7beb92140738944dbefaec44422d5", func := "plugboard/plugboardlaw32.SuspendsFull", spec := "suspendsFull", unfollowed := true, recurses := true, apart := false }
def SuspendsFullSaid : Prop := suspendsFullRow.holds Try.pinned (OpenSpec.ofChange suspendsFullSpec)

/-- ITS FALSE NEIGHBOUR: 'it returns false'. Refute it at one input. -/
def suspendsFullWrong : ChangeSpec := { name := "suspendsFull", fn := fun _ => fun
  | [d] => { results := [.lit (.bool false)], args := [d] }
  | _ => none }
def SuspendsFullWrongFalsely : Prop := suspendsFullRow.holds Try.pinned (OpenSpec.ofChange suspendsFullWrong)

/- THE SECOND FORM. 'bulk': how many values and letters a reading holds, each counted each time it is reached (what is shared counts as often as it is met; a slice's spare places count too). A statement '..UptoSaid' is the law's where the arguments, and the package variables that the reading takes, are together of bulk at most 1048576: NARROWER than '..Said'. Prove '..Said' where nothing that the law and all that it calls make is longer than what came in: it says more and counts as full. Else prove '..UptoSaid'. A law counts once. -/
mutual
def uptoBulk {H : Type} : DataW H → Nat
  | .lit (.string bytes) => bytes.length + 1
  | .lit _ => 1
  | .nil => 1
  | .ptr d => uptoBulk d + 1
  | .slice elems spare => uptoBulkAll elems + uptoBulkAll spare + 1
  | .agg parts => uptoBulkAll parts + 1
  | .iface _ d => uptoBulk d + 1
  | .map entries => uptoBulkEntries entries + 1
  | .held _ => 1
def uptoBulkAll {H : Type} : List (DataW H) → Nat
  | [] => 0
  | d :: r => uptoBulk d + uptoBulkAll r
def uptoBulkEntries {H : Type} : List (Lit × DataW H) → Nat
  | [] => 0
  | x :: r => uptoBulkEntry x + uptoBulkEntries r
def uptoBulkEntry {H : Type} : Lit × DataW H → Nat
  | (.string bytes, d) => bytes.length + uptoBulk d + 1
  | (_, d) => uptoBulk d + 1
 end
def uptoSmall : (H : Type) → List (DataW H) → Bool := fun _ ds => decide (uptoBulkAll ds ≤ 1048576)
def OpenSpec.upto (s : _root_.Go.ChangeSpec) : _root_.Go.OpenSpec := { _root_.Go.OpenSpec.ofChange s with cond := some uptoSmall }

/-- 'plugboardlaw32.SuspendsAwake', WHERE WHAT IT READS IS OF BULK AT MOST 1048576: true; the input reads as it did. -/
def suspendsAwakeUptoRow : OpenClaim := { program := "ytflieonbbggmhaa", sum := "697a33be794cc620656dea9c2a72fb65c8e7beb92140738944dbefaec44422d5", func := "plugboard/plugboardlaw32.SuspendsAwake", spec := "suspendsAwake", unfollowed := true, recurses := true, apart := false, narrowed := true }
def SuspendsAwakeUptoSaid : Prop := suspendsAwakeUptoRow.holds Try.pinned (OpenSpec.upto suspendsAwakeSpec)

/-- 'plugboardlaw32.SuspendsQuiet', WHERE WHAT IT READS IS OF BULK AT MOST 1048576: true; the input reads as it did. -/
def suspendsQuietUptoRow : OpenClaim := { program := "ytflieonbbggmhaa", sum := "697a33be794cc620656dea9c2a72fb65c8e7beb92140738944dbefaec44422d5", func := "plugboard/plugboardlaw32.SuspendsQuiet", spec := "suspendsQuiet", unfollowed := true, recurses := true, apart := false, narrowed := true }
def SuspendsQuietUptoSaid : Prop := suspendsQuietUptoRow.holds Try.pinned (OpenSpec.upto suspendsQuietSpec)

/-- 'plugboardlaw32.SuspendsCheck', WHERE WHAT IT READS IS OF BULK AT MOST 1048576: true; the input reads as it did. -/
def suspendsCheckUptoRow : OpenClaim := { program := "ytflieonbbggmhaa", sum := "697a33be794cc620656dea9c2a72fb65c8e7beb92140738944dbefaec44422d5", func := "plugboard/plugboardlaw32.SuspendsCheck", spec := "suspendsCheck", unfollowed := true, recurses := true, apart := false, narrowed := true }
def SuspendsCheckUptoSaid : Prop := suspendsCheckUptoRow.holds Try.pinned (OpenSpec.upto suspendsCheckSpec)

/-- 'plugboardlaw32.SuspendsUse', WHERE WHAT IT READS IS OF BULK AT MOST 1048576: true; the input reads as it did. -/
def suspendsUseUptoRow : OpenClaim := { program := "ytflieonbbggmhaa", sum := "697a33be794cc620656dea9c2a72fb65c8e7beb92140738944dbefaec44422d5", func := "plugboard/plugboardlaw32.SuspendsUse", spec := "suspendsUse", unfollowed := true, recurses := true, apart := false, narrowed := true }
def SuspendsUseUptoSaid : Prop := suspendsUseUptoRow.holds Try.pinned (OpenSpec.upto suspendsUseSpec)

/-- 'plugboardlaw32.SuspendsFull', WHERE WHAT IT READS IS OF BULK AT MOST 1048576: true; the input reads as it did. -/
def suspendsFullUptoRow : OpenClaim := { program := "ytflieonbbggmhaa", sum := "697a33be794cc620656dea9c2a72fb65c8e7beb92140738944dbefaec44422d5", func := "plugboard/plugboardlaw32.SuspendsFull", spec := "suspendsFull", unfollowed := true, recurses := true, apart := false, narrowed := true }
def SuspendsFullUptoSaid : Prop := suspendsFullUptoRow.holds Try.pinned (OpenSpec.upto suspendsFullSpec)

end Rows
end Go.Proofs.Ytflieonbbggmhaa
