/-
  No cell of these rows narrows 'for every input' (looked for: loops, veiled, ifaces, maps, wideKeys, modest, calm, conditions, laid).
  DERIVED. THE GIVEN ROWS OF THIS SEAT. 5 by the template 'for every input the law returns true; each argument reads behind the call as it read before'; 0 by the template 'total and deterministic' (their statements: YtlgalcekkffhnaaTotals.lean).
  GIVEN WITH THE SEED: the statements are not yours to turn. If you find one false, say at which input.
  Laid BY PROGRAM, IN A SANDBOX (cutbox-rows.mjs): the forced cells as the released guide's own fill.sh prints them over the translation 33ebcd9a0b7b36c3… (all of the seat's roots in one cut). By AI agents, Wed Nov 11 2026. No macro, syntax, notation, axiom, sorry.
-/
import Derived.Test.YtlgalcekkffhnaaChecked
import GoSem.Claim
import GoSem.ClaimJoined
import GoSem.ClaimMapViews
import Derived.JoinedTies
import Derived.KernelRfl
namespace Go.Proofs.Ytlgalcekkffhnaa
/- THE CELL 'sum', in the pinned program and in every row, IS THE sha256 OF THE DUMP (.gsa) THAT YtlgalcekkffhnaaProg.lean LOADS. Nothing in Lean hashes anything: it is a label: what it is worth is what the hold of that sum in a sandbox is worth. -/
noncomputable def Try.pinned : Pinned := { name := "ytlgalcekkffhnaa", sum := "33ebcd9a0b7b36c34ed3cbacab7b798a6ec542168c6920e8676b2017a1522315", checked := Try.checked }
namespace Rows
def none {H : Type} : Left H := { results := [], args := [] }

/-- 'plugboardlaw43.NetworksBack': WHATEVER THE INPUT: true; the input reads as it did. -/
def networksBackSpec : ChangeSpec := { name := "networksBack", fn := fun _ => fun
  | [d1, d2] => { results := [.lit (.bool true)], args := [d1, d2] }
  | _ => none }
def networksBackRow : OpenClaim := { program := "ytlgalcekkffhnaa", sum := "33ebcd9a0b7b36c34ed3cbacab7b798a6ec542168c6920e8676b2017a1522315", func := "plugboard/plugboardlaw43.NetworksBack", spec := "networksBack", unfollowed := true, recurses := true, apart := false }
def NetworksBackSaid : Prop := networksBackRow.holds Try.pinned (OpenSpec.ofChange networksBackSpec)

/-- ITS FALSE NEIGHBOUR: 'it returns false'. Refute it at one input. -/
def networksBackWrong : ChangeSpec := { name := "networksBack", fn := fun _ => fun
  | [d1, d2] => { results := [.lit (.bool false)], args := [d1, d2] }
  | _ => none }
def NetworksBackWrongFalsely : Prop := networksBackRow.holds Try.pinned (OpenSpec.ofChange networksBackWrong)

/-- 'plugboardlaw43.NetworksDecode': WHATEVER THE INPUT: true; the input reads as it did. -/
def networksDecodeSpec : ChangeSpec := { name := "networksDecode", fn := fun _ => fun
  | [d1, d2, d3] => { results := [.lit (.bool true)], args := [d1, d2, d3] }
  | _ => none }
def networksDecodeRow : OpenClaim := { program := "ytlgalcekkffhnaa", sum := "33ebcd9a0b7b36c34ed3cbacab7b798a6ec542168c6920e8676b2017a1522315", func := "plugboard/plugboardlaw43.NetworksDecode", spec := "networksDecode", unfollowed := true, recurses := true, apart := false }
def NetworksDecodeSaid : Prop := networksDecodeRow.holds Try.pinned (OpenSpec.ofChange networksDecodeSpec)

/-- ITS FALSE NEIGHBOUR: 'it returns false'. Refute it at one input. -/
def networksDecodeWrong : ChangeSpec := { name := "networksDecode", fn := fun _ => fun
  | [d1, d2, d3] => { results := [.lit (.bool false)], args := [d1, d2, d3] }
  | _ => none }
def NetworksDecodeWrongFalsely : Prop := networksDecodeRow.holds Try.pinned (OpenSpec.ofChange networksDecodeWrong)

/-- 'plugboardlaw43.NetworksLimits': WHATEVER THE INPUT: true; the input reads as it did. -/
def networksLimitsSpec : ChangeSpec := { name := "networksLimits", fn := fun _ => fun
  | [d] => { results := [.lit (.bool true)], args := [d] }
  | _ => none }
def networksLimitsRow : OpenClaim := { program := "ytlgalcekkffhnaa", sum := "33ebcd9a0b7b36c34ed3cbacab7b798a6ec542168c6920e8676b2017a1522315", func := "plugboard/plugboardlaw43.NetworksLimits", spec := "networksLimits", unfollowed := true, recurses := true, apart := false }
def NetworksLimitsSaid : Prop := networksLimitsRow.holds Try.pinned (OpenSpec.ofChange networksLimitsSpec)

/-- ITS FALSE NEIGHBOUR: 'it returns false'. Refute it at one input. -/
def networksLimitsWrong : ChangeSpec := { name := "networksLimits", fn := fun _ => fun
  | [d] => { results := [.lit (.bool false)], args := [d] }
  | _ => none }
def NetworksLimitsWrongFalsely : Prop := networksLimitsRow.holds Try.pinned (OpenSpec.ofChange networksLimitsWrong)

/-- 'plugboardlaw43.NetworksPacker': WHATEVER THE INPUT: true; the input reads as it did. -/
def networksPackerSpec : ChangeSpec := { name := "networksPacker", fn := fun _ => fun
  | [d1, d2, d3] => { results := [.lit (.bool true)], args := [d1, d2, d3] }
  | _ => none }
def networksPackerRow : OpenClaim := { program := "ytlgalcekkffhnaa", sum := "33ebcd9a0b7b36c34ed3cbacab7b798a6ec542168c6920e8676b2017a1522315", func := "plugboard/plugboardlaw43.NetworksPacker", spec := "networksPacker", unfollowed := true, recurses := true, apart := false }
def NetworksPackerSaid : Prop := networksPackerRow.holds Try.pinned (OpenSpec.ofChange networksPackerSpec)

/-- ITS FALSE NEIGHBOUR: 'it returns false'. Refute it at one input. -/
def networksPackerWrong : ChangeSpec := { name := "networksPacker", fn := fun _ => fun
  | [d1, d2, d3] => { results := [.lit (.bool false)], args := [d1, d2, d3] }
  | _ => none }
def NetworksPackerWrongFalsely : Prop := networksPackerRow.holds Try.pinned (OpenSpec.ofChange networksPackerWrong)

/-- 'plugboardlaw43.NetworksKnown': WHATEVER THE INPUT: true; the input reads as it did. -/
def networksKnownSpec : ChangeSpec := { name := "networksKnown", fn := fun _ => fun
  | [] => { results := [.lit (.bool true)], args := [] }
  | _ => none }
def networksKnownRow : OpenClaim := { program := "ytlgalcekkffhnaa", sum := "33ebcd9a0b7b36c34ed3cbacab7b798a6ec542168c6920e8676b2017a1522315", func := "plugboard/plugboardlaw43.NetworksKnown", spec := "networksKnown", unfollowed := true, recurses := true, apart := false }
def NetworksKnownSaid : Prop := networksKnownRow.holds Try.pinned (OpenSpec.ofChange networksKnownSpec)

/-- ITS FALSE NEIGHBOUR: 'it returns false'. Refute it at one input. -/
def networksKnownWrong : ChangeSpec := { name := "networksKnown", fn := fun _ => fun
  | [] => { results := [.lit (.bool false)], args := [] }
  | _ => none }
def NetworksKnownWrongFalsely : Prop := networksKnownRow.holds Try.pinned (OpenSpec.ofChange networksKnownWrong)

/- THE SECOND FORM. 'bulk': how many values and letters a reading holds, each counted each time it is reached (what is shared counts as often as it is met; a slice's spare places count too). A statement '..UptoSaid' is the law's where the arguments, and the package variables that the reading takes, are together of bulk at most 1048576: NARROWER than '..Said'. Prove '..Said' where nothing that the law and all that it calls make is longer than what came in: it says more and counts as full. Else prove '..UptoSaid'. A law counts once. -/
mutual
def uptoBulk {H : Type} : DataW H → Nat
  | .lit (.string bytes) => bytes.length + 1
  | .lit _ => 1
  | .nil => 1
  | .ptr d => uptoBulk d + 1
  | .slice elems spare => uptoBulkAll elems + uptoBulkAll spare + 1
  | .agg parts => uptoBulkAll parts + 1
  | .iface _ d => uptoBulk d + 1
  | .map entries => uptoBulkEntries entries + 1
  | .held _ => 1
def uptoBulkAll {H : Type} : List (DataW H) → Nat
  | [] => 0
  | d :: r => uptoBulk d + uptoBulkAll r
def uptoBulkEntries {H : Type} : List (Lit × DataW H) → Nat
  | [] => 0
  | x :: r => uptoBulkEntry x + uptoBulkEntries r
def uptoBulkEntry {H : Type} : Lit × DataW H → Nat
  | (.string bytes, d) => bytes.length + uptoBulk d + 1
  | (_, d) => uptoBulk d + 1
 end
def uptoSmall : (H : Type) → List (DataW H) → Bool := fun _ ds => decide (uptoBulkAll ds ≤ 1048576)
def OpenSpec.upto (s : _root_.Go.ChangeSpec) : _root_.Go.OpenSpec := { _root_.Go.OpenSpec.ofChange s with cond := some uptoSmall }

/-- 'plugboardlaw43.NetworksBack', WHERE WHAT IT READS IS OF BULK AT MOST 1048576: true; the input reads as it did. -/
def networksBackUptoRow : OpenClaim := { program := "ytlgalcekkffhnaa", sum := "33ebcd9a0b7b36c34ed3cbacab7b798a6ec542168c6920e8676b2017a1522315", func := "plugboard/plugboardlaw43.NetworksBack", spec := "networksBack", unfollowed := true, recurses := true, apart := false, narrowed := true }
def NetworksBackUptoSaid : Prop := networksBackUptoRow.holds Try.pinned (OpenSpec.upto networksBackSpec)

/-- 'plugboardlaw43.NetworksDecode', WHERE WHAT IT READS IS OF BULK AT MOST 1048576: true; the input reads as it did. -/
def networksDecodeUptoRow : OpenClaim := { program := "ytlgalcekkffhnaa", sum := "33ebcd9a0b7b36c34ed3cbacab7b798a6ec542168c6920e8676b2017a1522315", func := "plugboard/plugboardlaw43.NetworksDecode", spec := "networksDecode", unfollowed := true, recurses := true, apart := false, narrowed := true }
def NetworksDecodeUptoSaid : Prop := networksDecodeUptoRow.holds Try.pinned (OpenSpec.upto networksDecodeSpec)

/-- 'plugboardlaw43.NetworksLimits', WHERE WHAT IT READS IS OF BULK AT MOST 1048576: true; the input reads as it did. -/
def networksLimitsUptoRow : OpenClaim := { program := "ytlgalcekkffhnaa", sum := "33ebcd9a0b7b36c34ed3cbacab7b798a6ec542168c6920e8676b2017a1522315", func := "plugboard/plugboardlaw43.NetworksLimits", spec := "networksLimits", unfollowed := true, recurses := true, apart := false, narrowed := true }
def NetworksLimitsUptoSaid : Prop := networksLimitsUptoRow.holds Try.pinned (OpenSpec.upto networksLimitsSpec)

/-- 'plugboardlaw43.NetworksPacker', WHERE WHAT IT READS IS OF BULK AT MOST 1048576: true; the input reads as it did. -/
def networksPackerUptoRow : OpenClaim := { program := "ytlgalcekkffhnaa", sum := "33ebcd9a0b7b36c34ed3cbacab7b798a6ec542168c6920e8676b2017a1522315", func := "plugboard/plugboardlaw43.NetworksPacker", spec := "networksPacker", unfollowed := true, recurses := true, apart := false, narrowed := true }
def NetworksPackerUptoSaid : Prop := networksPackerUptoRow.holds Try.pinned (OpenSpec.upto networksPackerSpec)

/-- 'plugboardlaw43.NetworksKnown', WHERE WHAT IT READS IS OF BULK AT MOST 1048576: true; the input reads as it did. -/
def networksKnownUptoRow : OpenClaim := { program := "ytlgalcekkffhnaa", sum := "33ebcd9a0b7b36c34ed3cbacab7b798a6ec542168c6920e8676b2017a1522315", func := "plugboard/plugboardlaw43.NetworksKnown", spec := "networksKnown", unfollowed := true, recurses := true, apart := false, narrowed := true }
def NetworksKnownUptoSaid : Prop := networksKnownUptoRow.holds Try.pinned (OpenSpec.upto networksKnownSpec)

end Rows
end Go.Proofs.Ytlgalcekkffhnaa
