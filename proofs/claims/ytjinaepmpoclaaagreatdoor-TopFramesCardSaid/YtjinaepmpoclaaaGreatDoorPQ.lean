/- plugboard/commands.printable of an empty string: walked by the kit's own steps. -/
import Derived.Test.YtjinaepmpoclaaaGreatDoorLB3
import Derived.Test.YtjinaepmpoclaaaGreatDoorChecked
import Derived.WalkKit
import Derived.WalkSpells
import Derived.WalkLawsBesides
import Derived.Laws.RangeString
import Derived.Handy
set_option linter.unusedVariables false
set_option linter.unusedSimpArgs false
namespace Go.Proofs.YtjinaepmpoclaaaGreatDoor
open Go.RowKit
set_option maxRecDepth 100000
theorem c30e (w:World):Calls Tryz.prog 30 #[.string ⟨#[]⟩] w fun e w'=>e = .returned (.bool true) ∧ Below w.heap.size w w':=by
  have hn:∀ ty,(Instr.next (.pointer (some ⟨w.heap.size,0,none⟩)) true ty).run Tryz.prog (w.iter ⟨#[]⟩ 0) = .ok (.tuple #[.bool false]) (w.iter ⟨#[]⟩ 0):=fun ty=>run_next_end w _ 0 ty (by decide)
  go_enter Tryz.func30,Tryz.ntmps30
  go_wp2
  refine wp_loop_rounds 1 ?_
  rw [rounds_succ]
  go_wp2
  go_returns
  refine ⟨rfl,?_⟩
  unfold World.iter
  go_grown
def p30 (n:Nat) (x:List Int):Option Bool:=if x = [] then some true else .none
theorem c30 (K:Nat → Prop) (n:Nat) (w:World) (x0:List Int) (G0:Byt x0 ∧ x0.length ≤ 9223372036854775807) {r:(Bool)} (h:p30 n x0 = some r) :
  Calls Tryz.prog 30 #[.string (strOfNums x0)] w (d_c .bool w (Kx K w.heap.size []) r):=by
  unfold p30 at h
  by_cases hx:x0 = []
  · subst hx
    rw [if_pos rfl] at h
    injection h with h
    subst h
    exact (c30e w).mono fun e w' he=>⟨_,he.1,⟨[.bool true],rfl,rfl⟩,he.2⟩
  · rw [if_neg hx] at h;cases h
end Go.Proofs.YtjinaepmpoclaaaGreatDoor
