/- plugboard/commands.printable of an empty string: walked by the kit's own steps. -/
import Derived.Test.YtlfgpmcohfaabaaGreatDoorLB2
import Derived.Test.YtlfgpmcohfaabaaGreatDoorChecked
import Derived.WalkKit
import Derived.WalkSpells
import Derived.WalkLawsBesides
import Derived.Laws.RangeString
import Derived.Handy
set_option linter.unusedVariables false
set_option linter.unusedSimpArgs false
namespace Go.Proofs.YtlfgpmcohfaabaaGreatDoor
open Go.RowKit
set_option maxRecDepth 100000
theorem c42e (w:World):Calls Tryz.prog 42 #[.string ⟨#[]⟩] w fun e w'=>e = .returned (.bool true) ∧ Below w.heap.size w w':=by
  have hn:∀ ty,(Instr.next (.pointer (some ⟨w.heap.size,0,none⟩)) true ty).run Tryz.prog (w.iter ⟨#[]⟩ 0) = .ok (.tuple #[.bool false]) (w.iter ⟨#[]⟩ 0):=fun ty=>run_next_end w _ 0 ty (by decide)
  go_enter Tryz.func42,Tryz.ntmps42
  go_wp2
  refine wp_loop_rounds 1 ?_
  rw [rounds_succ]
  go_wp2
  go_returns
  refine ⟨rfl,?_⟩
  unfold World.iter
  go_grown
def p42 (n:Nat) (x:List Int):Option Bool:=if x = [] then some true else .none
theorem c42 (K:Nat → Prop) (n:Nat) (w:World) (x0:List Int) (G0:Byt x0 ∧ x0.length ≤ 9223372036854775807) {r:(Bool)} (h:p42 n x0 = some r) :
  Calls Tryz.prog 42 #[.string (strOfNums x0)] w (b_5 .bool w (Kx K w.heap.size []) r):=by
  unfold p42 at h
  by_cases hx:x0 = []
  · subst hx
    rw [if_pos rfl] at h
    injection h with h
    subst h
    exact (c42e w).mono fun e w' he=>⟨_,he.1,⟨[.bool true],rfl,rfl⟩,he.2⟩
  · rw [if_neg hx] at h;cases h
end Go.Proofs.YtlfgpmcohfaabaaGreatDoor
