/- x. -/
import Derived.Test.YtojifdijcanbpaaS11
import Derived.Test.YtojifdijcanbpaaXE14
set_option linter.unusedVariables false
set_option linter.unusedSimpArgs false
namespace Go.Proofs.Ytojifdijcanbpaa
open Go.RowKit

def tys : List (TypeId × GT) := [(3, .int .i64), (4, .bool), (5, .int .u8), (9, .str), (22, .sl (.arr 2 (.int .u8))), (23, .sl (.int .u8)), (25, .sl .str), (26, .arr 2 (.int .u8)), (27, .sl (.sl (.int .u8))), (28, .int .i64)]
theorem tys_ok : tysOk Try.prog tys = true := by kernel_rfl
theorem ty3 : tie Try.prog (.int .i64) false 3 [] 0 = true := gtOf.tie tys_ok (by kernel_rfl)
theorem ty4 : tie Try.prog .bool false 4 [] 0 = true := gtOf.tie tys_ok (by kernel_rfl)
theorem ty5 : tie Try.prog (.int .u8) false 5 [] 0 = true := gtOf.tie tys_ok (by kernel_rfl)
theorem ty9 : tie Try.prog .str false 9 [] 0 = true := gtOf.tie tys_ok (by kernel_rfl)
theorem ty22 : tie Try.prog (.sl (.arr 2 (.int .u8))) false 22 [] 0 = true := gtOf.tie tys_ok (by kernel_rfl)
theorem ty23 : tie Try.prog (.sl (.int .u8)) false 23 [] 0 = true := gtOf.tie tys_ok (by kernel_rfl)
theorem ty25 : tie Try.prog (.sl .str) false 25 [] 0 = true := gtOf.tie tys_ok (by kernel_rfl)
theorem ty26 : tie Try.prog (.arr 2 (.int .u8)) false 26 [] 0 = true := gtOf.tie tys_ok (by kernel_rfl)
theorem ty27 : tie Try.prog (.sl (.sl (.int .u8))) false 27 [] 0 = true := gtOf.tie tys_ok (by kernel_rfl)
theorem ty28 : tie Try.prog (.int .i64) false 28 [] 0 = true := gtOf.tie tys_ok (by kernel_rfl)
theorem z5 : (Try.prog.info? 5).bind (·.zero) = some (.int .u8 0) := by kernel_rfl
theorem un23 : Try.prog.underlying 23 = some (.slice 5) := by kernel_rfl
theorem un25 : Try.prog.underlying 25 = some (.slice 9) := by kernel_rfl
theorem un27 : Try.prog.underlying 27 = some (.slice 23) := by kernel_rfl
theorem by23 : bytesB Try.prog 23 (.int .u8) = true := by kernel_rfl
theorem by25 : bytesB Try.prog 25 .str = true := by kernel_rfl
theorem by27 : bytesB Try.prog 27 (.sl (.int .u8)) = true := by kernel_rfl
theorem cb11 : callB Try.prog 11 = true := by kernel_rfl

end Go.Proofs.Ytojifdijcanbpaa
