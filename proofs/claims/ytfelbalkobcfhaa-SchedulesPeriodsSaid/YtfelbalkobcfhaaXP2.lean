/- What the plain words compute on small numbers, as rules that are used with conditions of sizes. Plain theorems, no condition. -/
import Derived.Test.YtfelbalkobcfhaaXP1
set_option linter.unusedVariables false
set_option linter.unusedSimpArgs false
namespace Go.Proofs.Ytfelbalkobcfhaa
open Go.RowKit
theorem ckS {z:Int} (h1:-9223372036854775808 ≤ z) (h2:z ≤ 9223372036854775807):ckI .i64 z = some z:=ck_i64 ⟨h1,h2⟩
theorem remS {x y:Int} (h:0 ≤ x) (hy:0 < y) (hx:x ≤ 9223372036854775807):c_L .i64 x y = some (x % y) :=
  remI_ok h hy (inR_i64.2 ⟨by have:=Int.emod_nonneg x (by omega:y ≠ 0);omega,by have:=Int.emod_le_of_nonneg_of_pos x y hy h;omega⟩)
where
  Int.emod_le_of_nonneg_of_pos (x y:Int) (hy:0 < y) (h:0 ≤ x):x % y ≤ x:=by
    by_cases hxy:x < y
    · rw [Int.emod_eq_of_lt h hxy];exact Int.le_refl _
    · have:=Int.emod_lt_of_pos x hy;omega
theorem quoS {x y:Int} (h:0 ≤ x) (hy:0 < y) (hx:x ≤ 9223372036854775807):e_R .i64 x y = some (x / y) :=
  quoI_ok h hy (inR_i64.2 ⟨by have:=Int.ediv_nonneg h (by omega:0 ≤ y);omega,by have:=Int.ediv_le_self y h;omega⟩)
theorem lrKl {α β γ:Type} {e:α} {g:β → Option γ} {f:α → Option γ}:lrK (.inl e) g f = f e:=rfl
theorem lrKr {α β γ:Type} {e:β} {g:β → Option γ} {f:α → Option γ}:lrK (.inr e) g f = g e:=rfl
end Go.Proofs.Ytfelbalkobcfhaa
