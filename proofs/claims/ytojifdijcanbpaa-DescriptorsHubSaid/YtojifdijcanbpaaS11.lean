/- lives, as plain data. -/
import Derived.Test.YtojifdijcanbpaaXE12
import Derived.Test.YtojifdijcanbpaaLives
namespace Go.Proofs.Ytojifdijcanbpaa
open Go.RowKit
def p11 (_ : Nat) : Option Bool := some true
theorem c11 (K : Nat → Prop) (n : Nat) (w : World) {r : Bool} (h : p11 n = some r) : Calls Try.prog 11 #[] w (Ret1 .bool w (Kx K w.heap.size []) r) := by
  obtain rfl := Option.some.inj h
  exact (lives_any w).mono fun e w' ⟨he, hb⟩ => ⟨_, he, RepV.mkBool, hb⟩
end Go.Proofs.Ytojifdijcanbpaa
