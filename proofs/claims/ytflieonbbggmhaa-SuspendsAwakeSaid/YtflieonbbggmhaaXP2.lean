/- What the plain words compute on small numbers, as rules that are used with conditions of sizes. Plain theorems, no condition. -/
import Derived.Test.YtflieonbbggmhaaXP1
set_option linter.unusedVariables false
set_option linter.unusedSimpArgs false
namespace Go.Proofs.Ytflieonbbggmhaa
open Go.RowKit

theorem ckS {z : Int} (h1 : -9223372036854775808 ≤ z) (h2 : z ≤ 9223372036854775807) : ckI .i64 z = some z := ck_i64 ⟨h1, h2⟩
theorem lrKl {α β γ : Type} {e : α} {g : β → Option γ} {f : α → Option γ} : lrK (.inl e) g f = f e := rfl
theorem lrKr {α β γ : Type} {e : β} {g : β → Option γ} {f : α → Option γ} : lrK (.inr e) g f = g e := rfl
end Go.Proofs.Ytflieonbbggmhaa
