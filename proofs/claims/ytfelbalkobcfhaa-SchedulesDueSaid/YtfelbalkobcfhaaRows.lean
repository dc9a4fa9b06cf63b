/-
  No cell of these rows narrows 'for every input' (looked for: loops, veiled, ifaces, maps, wideKeys, modest, calm, conditions, laid).
  DERIVED. THE GIVEN ROWS OF THIS SEAT. 5 by the template 'for every input the law returns true; each argument reads behind the call as it read before'; 0 by the template 'total and deterministic' (their statements: YtfelbalkobcfhaaTotals.lean).
  GIVEN WITH THE SEED: the statements are not yours to turn. If you find one false, say at which input.
  Laid BY PROGRAM, IN A SANDBOX (cutbox-rows.mjs): the forced cells as the released guide's own fill.sh prints them over the translation 882a6146d2471c7b… (all of the seat's roots in one cut). By AI agents, Wed Nov 11 2026. No macro, syntax, notation, axiom, sorry.
-/
import Derived.Test.YtfelbalkobcfhaaChecked
import GoSem.Claim
import GoSem.ClaimJoined
import GoSem.ClaimMapViews
import Derived.JoinedTies
import Derived.KernelRfl
namespace Go.Proofs.Ytfelbalkobcfhaa
/- THE CELL 'sum', in the pinned program and in every row, IS THE sha256 OF THE DUMP (.gsa) THAT YtfelbalkobcfhaaProg.lean LOADS. Nothing in Lean hashes anything: it is a label: what it is worth is what the hold of that sum in a sandbox is worth. -/
noncomputable def Try.pinned : Pinned := { name := "ytfelbalkobcfhaa", sum := "882a6146d2471c7b29d30af41a0e2c06d6a387fbe66daec3569878d17c1c519e", checked := Try.checked }
namespace Rows
def none {H : Type} : Left H := { results := [], args := [] }

/-- 'plugboardlaw25.SchedulesAny': WHATEVER THE INPUT: true; the input reads as it did. -/
def schedulesAnySpec : ChangeSpec := { name := "schedulesAny", fn := fun _ => fun
  | [d1, d2] => { results := [.lit (.bool true)], args := [d1, d2] }
  | _ => none }
def schedulesAnyRow : OpenClaim := { program := "ytfelbalkobcfhaa", sum := "882a6146d2471c7b29d30af41a0e2c06d6a387fbe66daec3569878d17c1c519e", func := "plugboard/plugboardlaw25.SchedulesAny", spec := "schedulesAny", unfollowed := true, recurses := true, apart := false }
def SchedulesAnySaid : Prop := schedulesAnyRow.holds Try.pinned (OpenSpec.ofChange schedulesAnySpec)

/-- ITS FALSE NEIGHBOUR: 'it returns false'. Refute it at one input. -/
def schedulesAnyWrong : ChangeSpec := { name := "schedulesAny", fn := fun _ => fun
  | [d1, d2] => { results := [.lit (.bool false)], args := [d1, d2] }
  | _ => none }
def SchedulesAnyWrongFalsely : Prop := schedulesAnyRow.holds Try.pinned (OpenSpec.ofChange schedulesAnyWrong)

/-- 'plugboardlaw25.SchedulesRing': WHATEVER THE INPUT: true; the input reads as it did. -/
def schedulesRingSpec : ChangeSpec := { name := "schedulesRing", fn := fun _ => fun
  | [d1, d2] => { results := [.lit (.bool true)], args := [d1, d2] }
  | _ => none }
def schedulesRingRow : OpenClaim := { program := "ytfelbalkobcfhaa", sum := "882a6146d2471c7b29d30af41a0e2c06d6a387fbe66daec3569878d17c1c519e", func := "plugboard/plugboardlaw25.SchedulesRing", spec := "schedulesRing", unfollowed := true, recurses := true, apart := false }
def SchedulesRingSaid : Prop := schedulesRingRow.holds Try.pinned (OpenSpec.ofChange schedulesRingSpec)

/-- ITS FALSE NEIGHBOUR: 'it returns false'. Refute it at one input. -/
def schedulesRingWrong : ChangeSpec := { name := "schedulesRing", fn := fun _ => fun
  | [d1, d2] => { results := [.lit (.bool false)], args := [d1, d2] }
  | _ => none }
def SchedulesRingWrongFalsely : Prop := schedulesRingRow.holds Try.pinned (OpenSpec.ofChange schedulesRingWrong)

/-- 'plugboardlaw25.SchedulesFair': WHATEVER THE INPUT: true; the input reads as it did. -/
def schedulesFairSpec : ChangeSpec := { name := "schedulesFair", fn := fun _ => fun
  | [d1, d2] => { results := [.lit (.bool true)], args := [d1, d2] }
  | _ => none }
def schedulesFairRow : OpenClaim := { program := "ytfelbalkobcfhaa", sum := "882a6146d2471c7b29d30af41a0e2c06d6a387fbe66daec3569878d17c1c519e", func := "plugboard/plugboardlaw25.SchedulesFair", spec := "schedulesFair", unfollowed := true, recurses := true, apart := false }
def SchedulesFairSaid : Prop := schedulesFairRow.holds Try.pinned (OpenSpec.ofChange schedulesFairSpec)

/-- ITS FALSE NEIGHBOUR: 'it returns false'. Refute it at one input. -/
def schedulesFairWrong : ChangeSpec := { name := "schedulesFair", fn := fun _ => fun
  | [d1, d2] => { results := [.lit (.bool false)], args := [d1, d2] }
  | _ => none }
def SchedulesFairWrongFalsely : Prop := schedulesFairRow.holds Try.pinned (OpenSpec.ofChange schedulesFairWrong)

/-- 'plugboardlaw25.SchedulesDue': WHATEVER THE INPUT: true; the input reads as it did. -/
def schedulesDueSpec : ChangeSpec := { name := "schedulesDue", fn := fun _ => fun
  | [d1, d2, d3] => { results := [.lit (.bool true)], args := [d1, d2, d3] }
  | _ => none }
def schedulesDueRow : OpenClaim := { program := "ytfelbalkobcfhaa", sum := "882a6146d2471c7b29d30af41a0e2c06d6a387fbe66daec3569878d17c1c519e", func := "plugboard/plugboardlaw25.SchedulesDue", spec := "schedulesDue", unfollowed := true, recurses := true, apart := false }
def SchedulesDueSaid : Prop := schedulesDueRow.holds Try.pinned (OpenSpec.ofChange schedulesDueSpec)

/-- ITS FALSE NEIGHBOUR: 'it returns false'. Refute it at one input. -/
def schedulesDueWrong : ChangeSpec := { name := "schedulesDue", fn := fun _ => fun
  | [d1, d2, d3] => { results := [.lit (.bool false)], args := [d1, d2, d3] }
  | _ => none }
def SchedulesDueWrongFalsely : Prop := schedulesDueRow.holds Try.pinned (OpenSpec.ofChange schedulesDueWrong)

/-- 'plugboardlaw25.SchedulesPeriods': WHATEVER THE INPUT: true; the input reads as it did. -/
def schedulesPeriodsSpec : ChangeSpec := { name := "schedulesPeriods", fn := fun _ => fun
  | [d1, d2] => { results := [.lit (.bool true)], args := [d1, d2] }
  | _ => none }
def schedulesPeriodsRow : OpenClaim := { program := "ytfelbalkobcfhaa", sum := "882a6146d2471c7b29d30af41a0e2c06d6a387fbe66daec3569878d17c1c519e", func := "plugboard/plugboardlaw25.SchedulesPeriods", spec := "schedulesPeriods", unfollowed := true, recurses := true, apart := false }
def SchedulesPeriodsSaid : Prop := schedulesPeriodsRow.holds Try.pinned (OpenSpec.ofChange schedulesPeriodsSpec)

/-- ITS FALSE NEIGHBOUR: 'it returns false'. Refute it at one input. -/
def schedulesPeriodsWrong : ChangeSpec := { name := "schedulesPeriods", fn := fun _ => fun
  | [d1, d2] => { results := [.lit (.bool false)], args := [d1, d2] }
  | _ => none }
def SchedulesPeriodsWrongFalsely : Prop := schedulesPeriodsRow.holds Try.pinned (OpenSpec.ofChange schedulesPeriodsWrong)

/- THE SECOND FORM. 'bulk': how many values and letters a reading holds, each counted each time it is reached (what is shared counts as often as it is met; a slice's spare places count too). A statement '..UptoSaid' is the law's where the arguments, and the package variables that the reading takes, are together of bulk at most 1048576: NARROWER than '..Said'. Prove '..Said' where nothing that the law and all that it calls make is longer than what came in: it says more and counts as full. Else prove '..UptoSaid'. A law counts once. -/
mutual
def uptoBulk {H : Type} : DataW H → Nat
  | .lit (.string bytes) => bytes.length + 1
  | .lit _ => 1
  | .nil => 1
  | .ptr d => uptoBulk d + 1
  | .slice elems spare => uptoBulkAll elems + uptoBulkAll spare + 1
  | .agg parts => uptoBulkAll parts + 1
  | .iface _ d => uptoBulk d + 1
  | .map entries => uptoBulkEntries entries + 1
  | .held _ => 1
def uptoBulkAll {H : Type} : List (DataW H) → Nat
  | [] => 0
  | d :: r => uptoBulk d + uptoBulkAll r
def uptoBulkEntries {H : Type} : List (Lit × DataW H) → Nat
  | [] => 0
  | x :: r => uptoBulkEntry x + uptoBulkEntries r
def uptoBulkEntry {H : Type} : Lit × DataW H → Nat
  | (.string bytes, d) => bytes.length + uptoBulk d + 1
  | (_, d) => uptoBulk d + 1
 end
def uptoSmall : (H : Type) → List (DataW H) → Bool := fun _ ds => decide (uptoBulkAll ds ≤ 1048576)
def OpenSpec.upto (s : _root_.Go.ChangeSpec) : _root_.Go.OpenSpec := { _root_.Go.OpenSpec.ofChange s with cond := some uptoSmall }

/-- 'plugboardlaw25.SchedulesAny', WHERE WHAT IT READS IS OF BULK AT MOST 1048576: true; the input reads as it did. -/
def schedulesAnyUptoRow : OpenClaim := { program := "ytfelbalkobcfhaa", sum := "882a6146d2471c7b29d30af41a0e2c06d6a387fbe66daec3569878d17c1c519e", func := "plugboard/plugboardlaw25.SchedulesAny", spec := "schedulesAny", unfollowed := true, recurses := true, apart := false, narrowed := true }
def SchedulesAnyUptoSaid : Prop := schedulesAnyUptoRow.holds Try.pinned (OpenSpec.upto schedulesAnySpec)

/-- 'plugboardlaw25.SchedulesRing', WHERE WHAT IT READS IS OF BULK AT MOST 1048576: true; the input reads as it did. -/
def schedulesRingUptoRow : OpenClaim := { program := "ytfelbalkobcfhaa", sum := "882a6146d2471c7b29d30af41a0e2c06d6a387fbe66daec3569878d17c1c519e", func := "plugboard/plugboardlaw25.SchedulesRing", spec := "schedulesRing", unfollowed := true, recurses := true, apart := false, narrowed := true }
def SchedulesRingUptoSaid : Prop := schedulesRingUptoRow.holds Try.pinned (OpenSpec.upto schedulesRingSpec)

/-- 'plugboardlaw25.SchedulesFair', WHERE WHAT IT READS IS OF BULK AT MOST 1048576: true; the input reads as it did. -/
def schedulesFairUptoRow : OpenClaim := { program := "ytfelbalkobcfhaa", sum := "882a6146d2471c7b29d30af41a0e2c06d6a387fbe66daec3569878d17c1c519e", func := "plugboard/plugboardlaw25.SchedulesFair", spec := "schedulesFair", unfollowed := true, recurses := true, apart := false, narrowed := true }
def SchedulesFairUptoSaid : Prop := schedulesFairUptoRow.holds Try.pinned (OpenSpec.upto schedulesFairSpec)

/-- 'plugboardlaw25.SchedulesDue', WHERE WHAT IT READS IS OF BULK AT MOST 1048576: true; the input reads as it did. -/
def schedulesDueUptoRow : OpenClaim := { program := "ytfelbalkobcfhaa", sum := "882a6146d2471c7b29d30af41a0e2c06d6a387fbe66daec3569878d17c1c519e", func := "plugboard/plugboardlaw25.SchedulesDue", spec := "schedulesDue", unfollowed := true, recurses := true, apart := false, narrowed := true }
def SchedulesDueUptoSaid : Prop := schedulesDueUptoRow.holds Try.pinned (OpenSpec.upto schedulesDueSpec)

/-- 'plugboardlaw25.SchedulesPeriods', WHERE WHAT IT READS IS OF BULK AT MOST 1048576: true; the input reads as it did. -/
def schedulesPeriodsUptoRow : OpenClaim := { program := "ytfelbalkobcfhaa", sum := "882a6146d2471c7b29d30af41a0e2c06d6a387fbe66daec3569878d17c1c519e", func := "plugboard/plugboardlaw25.SchedulesPeriods", spec := "schedulesPeriods", unfollowed := true, recurses := true, apart := false, narrowed := true }
def SchedulesPeriodsUptoSaid : Prop := schedulesPeriodsUptoRow.holds Try.pinned (OpenSpec.upto schedulesPeriodsSpec)

end Rows
end Go.Proofs.Ytfelbalkobcfhaa
