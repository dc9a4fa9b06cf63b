/-
  DERIVED. GIVEN WITH THE SEED: THE CARDS: each row of YtlfgpmcohfaabaaGreatDoorRows.lean that lists a variable, with what it lists TIED to the program's text (the seventh form; the later family's looks); each row that meets fmt, with fmt's text TOLD by the authors' own Lean function (tested against real Go, not proved from fmt's source: count such statements apart). THE CARD IS WHAT COUNTS. Prove the row's statement (the work); the ties are given (YtlfgpmcohfaabaaGreatDoorTie.lean); close each card by the builder's one call (the guide's Derived/Test/ToyasCard.lean, 'card_holds'). Laid BY PROGRAM, IN A SANDBOX (cutbox-door.mjs). By AI agents, Wed Nov 11 2026. No macro, syntax, notation, axiom, sorry.
-/
import Derived.Test.YtlfgpmcohfaabaaGreatDoorRows
import GoSem.ClaimSeven
namespace Go.Proofs.YtlfgpmcohfaabaaGreatDoor
namespace Rows

/-- THE TIED CARD OF 'plugboardtop.TopTyped'. -/
def topTypedCard : Claim7 := { stood := { row := topTypedRow, standIns := [], harness := (true, "5661f3ddd80978e4306356079f475318df567f521fe7298683080050ca62ce37"), looks := false }, kinds := [], alts := [], laidByText := true, laidKinds := [.data, .widerDeep, .pinned], laidTests := true, laidLooks := .later }
def TopTypedCardSaid : Prop := Claim7.holds Tryz.pinned (.plain (OpenSpec.ofChange topTypedSpec)) topTypedCard

/-- THE SECOND FORM's CARD OF 'plugboardtop.TopTyped'. -/
def topTypedUptoCard : Claim7 := { stood := { row := topTypedUptoRow, standIns := [], harness := (true, "5661f3ddd80978e4306356079f475318df567f521fe7298683080050ca62ce37"), looks := false }, kinds := [], alts := [], laidByText := true, laidKinds := [.data, .widerDeep, .pinned], laidTests := true, laidLooks := .later }
def TopTypedUptoCardSaid : Prop := Claim7.holds Tryz.pinned (.plain (OpenSpec.upto topTypedSpec)) topTypedUptoCard
end Rows
end Go.Proofs.YtlfgpmcohfaabaaGreatDoor
