/-
  No cell of these rows narrows 'for every input' (looked for: loops, veiled, ifaces, maps, wideKeys, modest, calm, conditions, laid).
  DERIVED. THE GIVEN ROWS OF THIS SEAT. 5 by the template 'for every input the law returns true; each argument reads behind the call as it read before'; 0 by the template 'total and deterministic' (their statements: YtpllbhofpppfcaaTotals.lean).
  GIVEN WITH THE SEED: the statements are not yours to turn. If you find one false, say at which input.
  Laid BY PROGRAM, IN A SANDBOX (cutbox-rows.mjs): the forced cells as the released guide's own fill.sh prints them over the translation 8c236e170401ca86… (all of the seat's roots in one cut). By AI agents, Wed Nov 11 2026. No macro, syntax, notation, axiom, sorry.
-/
import Derived.Test.YtpllbhofpppfcaaChecked
import GoSem.Claim
import GoSem.ClaimJoined
import GoSem.ClaimMapViews
import Derived.JoinedTies
import Derived.KernelRfl
namespace Go.Proofs.Ytpllbhofpppfcaa
/- THE CELL 'sum', in the pinned program and in every row, IS THE sha256 OF THE DUMP (.gsa) THAT YtpllbhofpppfcaaProg.lean LOADS. Nothing in Lean hashes anything: it is a label: what it is worth is what the hold of that sum in a sandbox is worth. -/
noncomputable def Try.pinned : Pinned := { name := "ytpllbhofpppfcaa", sum := "8c236e170401ca86c54df321b98d75da9ecc08f80728bc03b6c4ee62741f49e7", checked := Try.checked }
namespace Rows
def none {H : Type} : Left H := { results := [], args := [] }

/-- 'plugboardlaw10.PeriodicsPeriod': WHATEVER THE INPUT: true; the input reads as it did. -/
def periodicsPeriodSpec : ChangeSpec := { name := "periodicsPeriod", fn := fun _ => fun
  | [d1, d2, d3] => { results := [.lit (.bool true)], args := [d1, d2, d3] }
  | _ => none }
def periodicsPeriodRow : OpenClaim := { program := "ytpllbhofpppfcaa", sum := "8c236e170401ca86c54df321b98d75da9ecc08f80728bc03b6c4ee62741f49e7", func := "plugboard/plugboardlaw10.PeriodicsPeriod", spec := "periodicsPeriod", unfollowed := true, recurses := true, apart := false }
def PeriodicsPeriodSaid : Prop := periodicsPeriodRow.holds Try.pinned (OpenSpec.ofChange periodicsPeriodSpec)

/-- ITS FALSE NEIGHBOUR: 'it returns false'. Refute it at one input. -/
def periodicsPeriodWrong : ChangeSpec := { name := "periodicsPeriod", fn := fun _ => fun
  | [d1, d2, d3] => { results := [.lit (.bool false)], args := [d1, d2, d3] }
  | _ => none }
def PeriodicsPeriodWrongFalsely : Prop := periodicsPeriodRow.holds Try.pinned (OpenSpec.ofChange periodicsPeriodWrong)

/-- 'plugboardlaw10.PeriodicsDue': WHATEVER THE INPUT: true; the input reads as it did. -/
def periodicsDueSpec : ChangeSpec := { name := "periodicsDue", fn := fun _ => fun
  | [d1, d2, d3] => { results := [.lit (.bool true)], args := [d1, d2, d3] }
  | _ => none }
def periodicsDueRow : OpenClaim := { program := "ytpllbhofpppfcaa", sum := "8c236e170401ca86c54df321b98d75da9ecc08f80728bc03b6c4ee62741f49e7", func := "plugboard/plugboardlaw10.PeriodicsDue", spec := "periodicsDue", unfollowed := true, recurses := true, apart := false }
def PeriodicsDueSaid : Prop := periodicsDueRow.holds Try.pinned (OpenSpec.ofChange periodicsDueSpec)

/-- ITS FALSE NEIGHBOUR: 'it returns false'. Refute it at one input. -/
def periodicsDueWrong : ChangeSpec := { name := "periodicsDue", fn := fun _ => fun
  | [d1, d2, d3] => { results := [.lit (.bool false)], args := [d1, d2, d3] }
  | _ => none }
def PeriodicsDueWrongFalsely : Prop := periodicsDueRow.holds Try.pinned (OpenSpec.ofChange periodicsDueWrong)

/-- 'plugboardlaw10.PeriodicsCount': WHATEVER THE INPUT: true; the input reads as it did. -/
def periodicsCountSpec : ChangeSpec := { name := "periodicsCount", fn := fun _ => fun
  | [d1, d2, d3] => { results := [.lit (.bool true)], args := [d1, d2, d3] }
  | _ => none }
def periodicsCountRow : OpenClaim := { program := "ytpllbhofpppfcaa", sum := "8c236e170401ca86c54df321b98d75da9ecc08f80728bc03b6c4ee62741f49e7", func := "plugboard/plugboardlaw10.PeriodicsCount", spec := "periodicsCount", unfollowed := true, recurses := true, apart := false }
def PeriodicsCountSaid : Prop := periodicsCountRow.holds Try.pinned (OpenSpec.ofChange periodicsCountSpec)

/-- ITS FALSE NEIGHBOUR: 'it returns false'. Refute it at one input. -/
def periodicsCountWrong : ChangeSpec := { name := "periodicsCount", fn := fun _ => fun
  | [d1, d2, d3] => { results := [.lit (.bool false)], args := [d1, d2, d3] }
  | _ => none }
def PeriodicsCountWrongFalsely : Prop := periodicsCountRow.holds Try.pinned (OpenSpec.ofChange periodicsCountWrong)

/-- 'plugboardlaw10.PeriodicsAll': WHATEVER THE INPUT: true; the input reads as it did. -/
def periodicsAllSpec : ChangeSpec := { name := "periodicsAll", fn := fun _ => fun
  | [d1, d2, d3] => { results := [.lit (.bool true)], args := [d1, d2, d3] }
  | _ => none }
def periodicsAllRow : OpenClaim := { program := "ytpllbhofpppfcaa", sum := "8c236e170401ca86c54df321b98d75da9ecc08f80728bc03b6c4ee62741f49e7", func := "plugboard/plugboardlaw10.PeriodicsAll", spec := "periodicsAll", unfollowed := true, recurses := true, apart := false }
def PeriodicsAllSaid : Prop := periodicsAllRow.holds Try.pinned (OpenSpec.ofChange periodicsAllSpec)

/-- ITS FALSE NEIGHBOUR: 'it returns false'. Refute it at one input. -/
def periodicsAllWrong : ChangeSpec := { name := "periodicsAll", fn := fun _ => fun
  | [d1, d2, d3] => { results := [.lit (.bool false)], args := [d1, d2, d3] }
  | _ => none }
def PeriodicsAllWrongFalsely : Prop := periodicsAllRow.holds Try.pinned (OpenSpec.ofChange periodicsAllWrong)

/-- 'plugboardlaw10.PeriodicsStart': WHATEVER THE INPUT: true; the input reads as it did. -/
def periodicsStartSpec : ChangeSpec := { name := "periodicsStart", fn := fun _ => fun
  | [d] => { results := [.lit (.bool true)], args := [d] }
  | _ => none }
def periodicsStartRow : OpenClaim := { program := "ytpllbhofpppfcaa", sum := "8c236e170401ca86c54df321b98d75da9ecc08f80728bc03b6c4ee62741f49e7", func := "plugboard/plugboardlaw10.PeriodicsStart", spec := "periodicsStart", unfollowed := true, recurses := true, apart := false }
def PeriodicsStartSaid : Prop := periodicsStartRow.holds Try.pinned (OpenSpec.ofChange periodicsStartSpec)

/-- ITS FALSE NEIGHBOUR: 'it returns false'. Refute it at one input. -/
def periodicsStartWrong : ChangeSpec := { name := "periodicsStart", fn := fun _ => fun
  | [d] => { results := [.lit (.bool false)], args := [d] }
  | _ => none }
def PeriodicsStartWrongFalsely : Prop := periodicsStartRow.holds Try.pinned (OpenSpec.ofChange periodicsStartWrong)

/- THE SECOND FORM. 'bulk': how many values and letters a reading holds, each counted each time it is reached (what is shared counts as often as it is met; a slice's spare places count too). A statement '..UptoSaid' is the law's where the arguments, and the package variables that the reading takes, are together of bulk at most 1048576: NARROWER than '..Said'. Prove '..Said' where nothing that the law and all that it calls make is longer than what came in: it says more and counts as full. Else prove '..UptoSaid'. A law counts once. -/
mutual
def uptoBulk {H : Type} : DataW H → Nat
  | .lit (.string bytes) => bytes.length + 1
  | .lit _ => 1
  | .nil => 1
  | .ptr d => uptoBulk d + 1
  | .slice elems spare => uptoBulkAll elems + uptoBulkAll spare + 1
  | .agg parts => uptoBulkAll parts + 1
  | .iface _ d => uptoBulk d + 1
  | .map entries => uptoBulkEntries entries + 1
  | .held _ => 1
def uptoBulkAll {H : Type} : List (DataW H) → Nat
  | [] => 0
  | d :: r => uptoBulk d + uptoBulkAll r
def uptoBulkEntries {H : Type} : List (Lit × DataW H) → Nat
  | [] => 0
  | x :: r => uptoBulkEntry x + uptoBulkEntries r
def uptoBulkEntry {H : Type} : Lit × DataW H → Nat
  | (.string bytes, d) => bytes.length + uptoBulk d + 1
  | (_, d) => uptoBulk d + 1
 end
def uptoSmall : (H : Type) → List (DataW H) → Bool := fun _ ds => decide (uptoBulkAll ds ≤ 1048576)
def OpenSpec.upto (s : _root_.Go.ChangeSpec) : _root_.Go.OpenSpec := { _root_.Go.OpenSpec.ofChange s with cond := some uptoSmall }

/-- 'plugboardlaw10.PeriodicsPeriod', WHERE WHAT IT READS IS OF BULK AT MOST 1048576: true; the input reads as it did. -/
def periodicsPeriodUptoRow : OpenClaim := { program := "ytpllbhofpppfcaa", sum := "8c236e170401ca86c54df321b98d75da9ecc08f80728bc03b6c4ee62741f49e7", func := "plugboard/plugboardlaw10.PeriodicsPeriod", spec := "periodicsPeriod", unfollowed := true, recurses := true, apart := false, narrowed := true }
def PeriodicsPeriodUptoSaid : Prop := periodicsPeriodUptoRow.holds Try.pinned (OpenSpec.upto periodicsPeriodSpec)

/-- 'plugboardlaw10.PeriodicsDue', WHERE WHAT IT READS IS OF BULK AT MOST 1048576: true; the input reads as it did. -/
def periodicsDueUptoRow : OpenClaim := { program := "ytpllbhofpppfcaa", sum := "8c236e170401ca86c54df321b98d75da9ecc08f80728bc03b6c4ee62741f49e7", func := "plugboard/plugboardlaw10.PeriodicsDue", spec := "periodicsDue", unfollowed := true, recurses := true, apart := false, narrowed := true }
def PeriodicsDueUptoSaid : Prop := periodicsDueUptoRow.holds Try.pinned (OpenSpec.upto periodicsDueSpec)

/-- 'plugboardlaw10.PeriodicsCount', WHERE WHAT IT READS IS OF BULK AT MOST 1048576: true; the input reads as it did. -/
def periodicsCountUptoRow : OpenClaim := { program := "ytpllbhofpppfcaa", sum := "8c236e170401ca86c54df321b98d75da9ecc08f80728bc03b6c4ee62741f49e7", func := "plugboard/plugboardlaw10.PeriodicsCount", spec := "periodicsCount", unfollowed := true, recurses := true, apart := false, narrowed := true }
def PeriodicsCountUptoSaid : Prop := periodicsCountUptoRow.holds Try.pinned (OpenSpec.upto periodicsCountSpec)

/-- 'plugboardlaw10.PeriodicsAll', WHERE WHAT IT READS IS OF BULK AT MOST 1048576: true; the input reads as it did. -/
def periodicsAllUptoRow : OpenClaim := { program := "ytpllbhofpppfcaa", sum := "8c236e170401ca86c54df321b98d75da9ecc08f80728bc03b6c4ee62741f49e7", func := "plugboard/plugboardlaw10.PeriodicsAll", spec := "periodicsAll", unfollowed := true, recurses := true, apart := false, narrowed := true }
def PeriodicsAllUptoSaid : Prop := periodicsAllUptoRow.holds Try.pinned (OpenSpec.upto periodicsAllSpec)

/-- 'plugboardlaw10.PeriodicsStart', WHERE WHAT IT READS IS OF BULK AT MOST 1048576: true; the input reads as it did. -/
def periodicsStartUptoRow : OpenClaim := { program := "ytpllbhofpppfcaa", sum := "8c236e170401ca86c54df321b98d75da9ecc08f80728bc03b6c4ee62741f49e7", func := "plugboard/plugboardlaw10.PeriodicsStart", spec := "periodicsStart", unfollowed := true, recurses := true, apart := false, narrowed := true }
def PeriodicsStartUptoSaid : Prop := periodicsStartUptoRow.holds Try.pinned (OpenSpec.upto periodicsStartSpec)

end Rows
end Go.Proofs.Ytpllbhofpppfcaa
