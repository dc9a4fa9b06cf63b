/-
  No cell of these rows narrows 'for every input' (looked for: loops, veiled, ifaces, maps, wideKeys, modest, calm, conditions, laid).
  DERIVED. THE GIVEN ROWS OF THIS SEAT. 8 by the template 'for every input the law returns true; each argument reads behind the call as it read before'; 0 by the template 'total and deterministic' (their statements: YtojifdijcanbpaaTotals.lean).
  GIVEN WITH THE SEED: the statements are not yours to turn. If you find one false, say at which input.
  Laid BY PROGRAM, IN A SANDBOX (cutbox-rows.mjs): the forced cells as the released guide's own fill.sh prints them over the translation b308d31e738e5e1d… (all of the seat's roots in one cut). By AI agents, Wed Nov 11 2026. No macro, syntax, notation, axiom, sorry.
-/
import Derived.Test.YtojifdijcanbpaaChecked
import GoSem.Claim
import GoSem.ClaimJoined
import GoSem.ClaimMapViews
import Derived.JoinedTies
import Derived.KernelRfl
namespace Go.Proofs.Ytojifdijcanbpaa
/- THE CELL 'sum', in the pinned program and in every row, IS THE sha256 OF THE DUMP (.gsa) THAT YtojifdijcanbpaaProg.lean LOADS. Nothing in Lean hashes anything: it is a label: what it is worth is what the hold of that sum in a sandbox is worth. -/
noncomputable def Try.pinned : Pinned := { name := "ytojifdijcanbpaa", sum := "b308d31e738e5e1d2b531effd22dfb24da0660a339e09c20e031f71070263360", checked := Try.checked }
namespace Rows
def none {H : Type} : Left H := { results := [], args := [] }

/-- 'plugboardlaw13.DescriptorsDivide': WHATEVER THE INPUT: true; the input reads as it did. -/
def descriptorsDivideSpec : ChangeSpec := { name := "descriptorsDivide", fn := fun _ => fun
  | [d1, d2] => { results := [.lit (.bool true)], args := [d1, d2] }
  | _ => none }
def descriptorsDivideRow : OpenClaim := { program := "ytojifdijcanbpaa", sum := "b308d31e738e5e1d2b531effd22dfb24da0660a339e09c20e031f71070263360", func := "plugboard/plugboardlaw13.DescriptorsDivide", spec := "descriptorsDivide", unfollowed := true, recurses := true, apart := false }
def DescriptorsDivideSaid : Prop := descriptorsDivideRow.holds Try.pinned (OpenSpec.ofChange descriptorsDivideSpec)

/-- ITS FALSE NEIGHBOUR: 'it returns false'. Refute it at one input. -/
def descriptorsDivideWrong : ChangeSpec := { name := "descriptorsDivide", fn := fun _ => fun
  | [d1, d2] => { results := [.lit (.bool false)], args := [d1, d2] }
  | _ => none }
def DescriptorsDivideWrongFalsely : Prop := descriptorsDivideRow.holds Try.pinned (OpenSpec.ofChange descriptorsDivideWrong)

/-- 'plugboardlaw13.DescriptorsFits': WHATEVER THE INPUT: true; the input reads as it did. -/
def descriptorsFitsSpec : ChangeSpec := { name := "descriptorsFits", fn := fun _ => fun
  | [d1, d2, d3] => { results := [.lit (.bool true)], args := [d1, d2, d3] }
  | _ => none }
def descriptorsFitsRow : OpenClaim := { program := "ytojifdijcanbpaa", sum := "b308d31e738e5e1d2b531effd22dfb24da0660a339e09c20e031f71070263360", func := "plugboard/plugboardlaw13.DescriptorsFits", spec := "descriptorsFits", unfollowed := true, recurses := true, apart := false }
def DescriptorsFitsSaid : Prop := descriptorsFitsRow.holds Try.pinned (OpenSpec.ofChange descriptorsFitsSpec)

/-- ITS FALSE NEIGHBOUR: 'it returns false'. Refute it at one input. -/
def descriptorsFitsWrong : ChangeSpec := { name := "descriptorsFits", fn := fun _ => fun
  | [d1, d2, d3] => { results := [.lit (.bool false)], args := [d1, d2, d3] }
  | _ => none }
def DescriptorsFitsWrongFalsely : Prop := descriptorsFitsRow.holds Try.pinned (OpenSpec.ofChange descriptorsFitsWrong)

/-- 'plugboardlaw13.DescriptorsApart': WHATEVER THE INPUT: true; the input reads as it did. -/
def descriptorsApartSpec : ChangeSpec := { name := "descriptorsApart", fn := fun _ => fun
  | [d1, d2, d3] => { results := [.lit (.bool true)], args := [d1, d2, d3] }
  | _ => none }
def descriptorsApartRow : OpenClaim := { program := "ytojifdijcanbpaa", sum := "b308d31e738e5e1d2b531effd22dfb24da0660a339e09c20e031f71070263360", func := "plugboard/plugboardlaw13.DescriptorsApart", spec := "descriptorsApart", unfollowed := true, recurses := true, apart := false }
def DescriptorsApartSaid : Prop := descriptorsApartRow.holds Try.pinned (OpenSpec.ofChange descriptorsApartSpec)

/-- ITS FALSE NEIGHBOUR: 'it returns false'. Refute it at one input. -/
def descriptorsApartWrong : ChangeSpec := { name := "descriptorsApart", fn := fun _ => fun
  | [d1, d2, d3] => { results := [.lit (.bool false)], args := [d1, d2, d3] }
  | _ => none }
def DescriptorsApartWrongFalsely : Prop := descriptorsApartRow.holds Try.pinned (OpenSpec.ofChange descriptorsApartWrong)

/-- 'plugboardlaw13.DescriptorsConfiguration': WHATEVER THE INPUT: true; the input reads as it did. -/
def descriptorsConfigurationSpec : ChangeSpec := { name := "descriptorsConfiguration", fn := fun _ => fun
  | [d1, d2] => { results := [.lit (.bool true)], args := [d1, d2] }
  | _ => none }
def descriptorsConfigurationRow : OpenClaim := { program := "ytojifdijcanbpaa", sum := "b308d31e738e5e1d2b531effd22dfb24da0660a339e09c20e031f71070263360", func := "plugboard/plugboardlaw13.DescriptorsConfiguration", spec := "descriptorsConfiguration", unfollowed := true, recurses := true, apart := false }
def DescriptorsConfigurationSaid : Prop := descriptorsConfigurationRow.holds Try.pinned (OpenSpec.ofChange descriptorsConfigurationSpec)

/-- ITS FALSE NEIGHBOUR: 'it returns false'. Refute it at one input. -/
def descriptorsConfigurationWrong : ChangeSpec := { name := "descriptorsConfiguration", fn := fun _ => fun
  | [d1, d2] => { results := [.lit (.bool false)], args := [d1, d2] }
  | _ => none }
def DescriptorsConfigurationWrongFalsely : Prop := descriptorsConfigurationRow.holds Try.pinned (OpenSpec.ofChange descriptorsConfigurationWrong)

/-- 'plugboardlaw13.DescriptorsEndpoint': WHATEVER THE INPUT: true; the input reads as it did. -/
def descriptorsEndpointSpec : ChangeSpec := { name := "descriptorsEndpoint", fn := fun _ => fun
  | [d1, d2] => { results := [.lit (.bool true)], args := [d1, d2] }
  | _ => none }
def descriptorsEndpointRow : OpenClaim := { program := "ytojifdijcanbpaa", sum := "b308d31e738e5e1d2b531effd22dfb24da0660a339e09c20e031f71070263360", func := "plugboard/plugboardlaw13.DescriptorsEndpoint", spec := "descriptorsEndpoint", unfollowed := true, recurses := true, apart := false }
def DescriptorsEndpointSaid : Prop := descriptorsEndpointRow.holds Try.pinned (OpenSpec.ofChange descriptorsEndpointSpec)

/-- ITS FALSE NEIGHBOUR: 'it returns false'. Refute it at one input. -/
def descriptorsEndpointWrong : ChangeSpec := { name := "descriptorsEndpoint", fn := fun _ => fun
  | [d1, d2] => { results := [.lit (.bool false)], args := [d1, d2] }
  | _ => none }
def DescriptorsEndpointWrongFalsely : Prop := descriptorsEndpointRow.holds Try.pinned (OpenSpec.ofChange descriptorsEndpointWrong)

/-- 'plugboardlaw13.DescriptorsHub': WHATEVER THE INPUT: true; the input reads as it did. -/
def descriptorsHubSpec : ChangeSpec := { name := "descriptorsHub", fn := fun _ => fun
  | [d1, d2] => { results := [.lit (.bool true)], args := [d1, d2] }
  | _ => none }
def descriptorsHubRow : OpenClaim := { program := "ytojifdijcanbpaa", sum := "b308d31e738e5e1d2b531effd22dfb24da0660a339e09c20e031f71070263360", func := "plugboard/plugboardlaw13.DescriptorsHub", spec := "descriptorsHub", unfollowed := true, recurses := true, apart := false }
def DescriptorsHubSaid : Prop := descriptorsHubRow.holds Try.pinned (OpenSpec.ofChange descriptorsHubSpec)

/-- ITS FALSE NEIGHBOUR: 'it returns false'. Refute it at one input. -/
def descriptorsHubWrong : ChangeSpec := { name := "descriptorsHub", fn := fun _ => fun
  | [d1, d2] => { results := [.lit (.bool false)], args := [d1, d2] }
  | _ => none }
def DescriptorsHubWrongFalsely : Prop := descriptorsHubRow.holds Try.pinned (OpenSpec.ofChange descriptorsHubWrong)

/-- 'plugboardlaw13.DescriptorsInterface': WHATEVER THE INPUT: true; the input reads as it did. -/
def descriptorsInterfaceSpec : ChangeSpec := { name := "descriptorsInterface", fn := fun _ => fun
  | [d1, d2] => { results := [.lit (.bool true)], args := [d1, d2] }
  | _ => none }
def descriptorsInterfaceRow : OpenClaim := { program := "ytojifdijcanbpaa", sum := "b308d31e738e5e1d2b531effd22dfb24da0660a339e09c20e031f71070263360", func := "plugboard/plugboardlaw13.DescriptorsInterface", spec := "descriptorsInterface", unfollowed := true, recurses := true, apart := false }
def DescriptorsInterfaceSaid : Prop := descriptorsInterfaceRow.holds Try.pinned (OpenSpec.ofChange descriptorsInterfaceSpec)

/-- ITS FALSE NEIGHBOUR: 'it returns false'. Refute it at one input. -/
def descriptorsInterfaceWrong : ChangeSpec := { name := "descriptorsInterface", fn := fun _ => fun
  | [d1, d2] => { results := [.lit (.bool false)], args := [d1, d2] }
  | _ => none }
def DescriptorsInterfaceWrongFalsely : Prop := descriptorsInterfaceRow.holds Try.pinned (OpenSpec.ofChange descriptorsInterfaceWrong)

/-- 'plugboardlaw13.DescriptorsDevice': WHATEVER THE INPUT: true; the input reads as it did. -/
def descriptorsDeviceSpec : ChangeSpec := { name := "descriptorsDevice", fn := fun _ => fun
  | [d1, d2] => { results := [.lit (.bool true)], args := [d1, d2] }
  | _ => none }
def descriptorsDeviceRow : OpenClaim := { program := "ytojifdijcanbpaa", sum := "b308d31e738e5e1d2b531effd22dfb24da0660a339e09c20e031f71070263360", func := "plugboard/plugboardlaw13.DescriptorsDevice", spec := "descriptorsDevice", unfollowed := true, recurses := true, apart := false }
def DescriptorsDeviceSaid : Prop := descriptorsDeviceRow.holds Try.pinned (OpenSpec.ofChange descriptorsDeviceSpec)

/-- ITS FALSE NEIGHBOUR: 'it returns false'. Refute it at one input. -/
def descriptorsDeviceWrong : ChangeSpec := { name := "descriptorsDevice", fn := fun _ => fun
  | [d1, d2] => { results := [.lit (.bool false)], args := [d1, d2] }
  | _ => none }
def DescriptorsDeviceWrongFalsely : Prop := descriptorsDeviceRow.holds Try.pinned (OpenSpec.ofChange descriptorsDeviceWrong)

/- THE SECOND FORM. 'bulk': how many values and letters a reading holds, each counted each time it is reached (what is shared counts as often as it is met; a slice's spare places count too). A statement '..UptoSaid' is the law's where the arguments, and the package variables that the reading takes, are together of bulk at most 1048576: NARROWER than '..Said'. Prove '..Said' where nothing that the law and all that it calls make is longer than what came in: it says more and counts as full. Else prove '..UptoSaid'. A law counts once. -/
mutual
def uptoBulk {H : Type} : DataW H → Nat
  | .lit (.string bytes) => bytes.length + 1
  | .lit _ => 1
  | .nil => 1
  | .ptr d => uptoBulk d + 1
  | .slice elems spare => uptoBulkAll elems + uptoBulkAll spare + 1
  | .agg parts => uptoBulkAll parts + 1
  | .iface _ d => uptoBulk d + 1
  | .map entries => uptoBulkEntries entries + 1
  | .held _ => 1
def uptoBulkAll {H : Type} : List (DataW H) → Nat
  | [] => 0
  | d :: r => uptoBulk d + uptoBulkAll r
def uptoBulkEntries {H : Type} : List (Lit × DataW H) → Nat
  | [] => 0
  | x :: r => uptoBulkEntry x + uptoBulkEntries r
def uptoBulkEntry {H : Type} : Lit × DataW H → Nat
  | (.string bytes, d) => bytes.length + uptoBulk d + 1
  | (_, d) => uptoBulk d + 1
 end
def uptoSmall : (H : Type) → List (DataW H) → Bool := fun _ ds => decide (uptoBulkAll ds ≤ 1048576)
def OpenSpec.upto (s : _root_.Go.ChangeSpec) : _root_.Go.OpenSpec := { _root_.Go.OpenSpec.ofChange s with cond := some uptoSmall }

/-- 'plugboardlaw13.DescriptorsDivide', WHERE WHAT IT READS IS OF BULK AT MOST 1048576: true; the input reads as it did. -/
def descriptorsDivideUptoRow : OpenClaim := { program := "ytojifdijcanbpaa", sum := "b308d31e738e5e1d2b531effd22dfb24da0660a339e09c20e031f71070263360", func := "plugboard/plugboardlaw13.DescriptorsDivide", spec := "descriptorsDivide", unfollowed := true, recurses := true, apart := false, narrowed := true }
def DescriptorsDivideUptoSaid : Prop := descriptorsDivideUptoRow.holds Try.pinned (OpenSpec.upto descriptorsDivideSpec)

/-- 'plugboardlaw13.DescriptorsFits', WHERE WHAT IT READS IS OF BULK AT MOST 1048576: true; the input reads as it did. -/
def descriptorsFitsUptoRow : OpenClaim := { program := "ytojifdijcanbpaa", sum := "b308d31e738e5e1d2b531effd22dfb24da0660a339e09c20e031f71070263360", func := "plugboard/plugboardlaw13.DescriptorsFits", spec := "descriptorsFits", unfollowed := true, recurses := true, apart := false, narrowed := true }
def DescriptorsFitsUptoSaid : Prop := descriptorsFitsUptoRow.holds Try.pinned (OpenSpec.upto descriptorsFitsSpec)

/-- 'plugboardlaw13.DescriptorsApart', WHERE WHAT IT READS IS OF BULK AT MOST 1048576: true; the input reads as it did. -/
def descriptorsApartUptoRow : OpenClaim := { program := "ytojifdijcanbpaa", sum := "b308d31e738e5e1d2b531effd22dfb24da0660a339e09c20e031f71070263360", func := "plugboard/plugboardlaw13.DescriptorsApart", spec := "descriptorsApart", unfollowed := true, recurses := true, apart := false, narrowed := true }
def DescriptorsApartUptoSaid : Prop := descriptorsApartUptoRow.holds Try.pinned (OpenSpec.upto descriptorsApartSpec)

/-- 'plugboardlaw13.DescriptorsConfiguration', WHERE WHAT IT READS IS OF BULK AT MOST 1048576: true; the input reads as it did. -/
def descriptorsConfigurationUptoRow : OpenClaim := { program := "ytojifdijcanbpaa", sum := "b308d31e738e5e1d2b531effd22dfb24da0660a339e09c20e031f71070263360", func := "plugboard/plugboardlaw13.DescriptorsConfiguration", spec := "descriptorsConfiguration", unfollowed := true, recurses := true, apart := false, narrowed := true }
def DescriptorsConfigurationUptoSaid : Prop := descriptorsConfigurationUptoRow.holds Try.pinned (OpenSpec.upto descriptorsConfigurationSpec)

/-- 'plugboardlaw13.DescriptorsEndpoint', WHERE WHAT IT READS IS OF BULK AT MOST 1048576: true; the input reads as it did. -/
def descriptorsEndpointUptoRow : OpenClaim := { program := "ytojifdijcanbpaa", sum := "b308d31e738e5e1d2b531effd22dfb24da0660a339e09c20e031f71070263360", func := "plugboard/plugboardlaw13.DescriptorsEndpoint", spec := "descriptorsEndpoint", unfollowed := true, recurses := true, apart := false, narrowed := true }
def DescriptorsEndpointUptoSaid : Prop := descriptorsEndpointUptoRow.holds Try.pinned (OpenSpec.upto descriptorsEndpointSpec)

/-- 'plugboardlaw13.DescriptorsHub', WHERE WHAT IT READS IS OF BULK AT MOST 1048576: true; the input reads as it did. -/
def descriptorsHubUptoRow : OpenClaim := { program := "ytojifdijcanbpaa", sum := "b308d31e738e5e1d2b531effd22dfb24da0660a339e09c20e031f71070263360", func := "plugboard/plugboardlaw13.DescriptorsHub", spec := "descriptorsHub", unfollowed := true, recurses := true, apart := false, narrowed := true }
def DescriptorsHubUptoSaid : Prop := descriptorsHubUptoRow.holds Try.pinned (OpenSpec.upto descriptorsHubSpec)

/-- 'plugboardlaw13.DescriptorsInterface', WHERE WHAT IT READS IS OF BULK AT MOST 1048576: true; the input reads as it did. -/
def descriptorsInterfaceUptoRow : OpenClaim := { program := "ytojifdijcanbpaa", sum := "b308d31e738e5e1d2b531effd22dfb24da0660a339e09c20e031f71070263360", func := "plugboard/plugboardlaw13.DescriptorsInterface", spec := "descriptorsInterface", unfollowed := true, recurses := true, apart := false, narrowed := true }
def DescriptorsInterfaceUptoSaid : Prop := descriptorsInterfaceUptoRow.holds Try.pinned (OpenSpec.upto descriptorsInterfaceSpec)

/-- 'plugboardlaw13.DescriptorsDevice', WHERE WHAT IT READS IS OF BULK AT MOST 1048576: true; the input reads as it did. -/
def descriptorsDeviceUptoRow : OpenClaim := { program := "ytojifdijcanbpaa", sum := "b308d31e738e5e1d2b531effd22dfb24da0660a339e09c20e031f71070263360", func := "plugboard/plugboardlaw13.DescriptorsDevice", spec := "descriptorsDevice", unfollowed := true, recurses := true, apart := false, narrowed := true }
def DescriptorsDeviceUptoSaid : Prop := descriptorsDeviceUptoRow.holds Try.pinned (OpenSpec.upto descriptorsDeviceSpec)

end Rows
end Go.Proofs.Ytojifdijcanbpaa
