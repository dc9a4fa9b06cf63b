/- Functions of the program, as plain data. -/
import Derived.Test.YtlgalcekkffhnaaXE33
set_option linter.unusedVariables false
set_option linter.unusedSimpArgs false
namespace Go.Proofs.Ytlgalcekkffhnaa
open Go.RowKit

def tys : List (TypeId × GT) := [(3, .int .i64), (4, .bool), (5, .int .u8), (9, .str), (22, .int .u16), (23, .sl (.sl (.int .u8))), (25, .st (.pair (.int .u16) (.sl (.sl (.int .u8))))), (27, .sl (.int .i64)), (28, .sl (.int .u8)), (29, .int .i64), (40, .sl (.arr 2 (.int .u16))), (41, .arr 2 (.int .u16))]
theorem tys_ok : tysOk Try.prog tys = true := by kernel_rfl
theorem ty3 : tie Try.prog (.int .i64) false 3 [] 0 = true := gtOf.tie tys_ok (by kernel_rfl)
theorem ty4 : tie Try.prog .bool false 4 [] 0 = true := gtOf.tie tys_ok (by kernel_rfl)
theorem ty5 : tie Try.prog (.int .u8) false 5 [] 0 = true := gtOf.tie tys_ok (by kernel_rfl)
theorem ty9 : tie Try.prog .str false 9 [] 0 = true := gtOf.tie tys_ok (by kernel_rfl)
theorem ty22 : tie Try.prog (.int .u16) false 22 [] 0 = true := gtOf.tie tys_ok (by kernel_rfl)
theorem ty23 : tie Try.prog (.sl (.sl (.int .u8))) false 23 [] 0 = true := gtOf.tie tys_ok (by kernel_rfl)
theorem ty25 : tie Try.prog (.st (.pair (.int .u16) (.sl (.sl (.int .u8))))) false 25 [] 0 = true := gtOf.tie tys_ok (by kernel_rfl)
theorem ty27 : tie Try.prog (.sl (.int .i64)) false 27 [] 0 = true := gtOf.tie tys_ok (by kernel_rfl)
theorem ty28 : tie Try.prog (.sl (.int .u8)) false 28 [] 0 = true := gtOf.tie tys_ok (by kernel_rfl)
theorem ty29 : tie Try.prog (.int .i64) false 29 [] 0 = true := gtOf.tie tys_ok (by kernel_rfl)
theorem ty40 : tie Try.prog (.sl (.arr 2 (.int .u16))) false 40 [] 0 = true := gtOf.tie tys_ok (by kernel_rfl)
theorem ty41 : tie Try.prog (.arr 2 (.int .u16)) false 41 [] 0 = true := gtOf.tie tys_ok (by kernel_rfl)
theorem tyw25_1 : tie Try.prog (.st (.pair (.int .u16) .raw)) false 25 [] 0 = true := by kernel_rfl
theorem tyr23 : tie Try.prog .raw false 23 [] 0 = true := by kernel_rfl
theorem z5 : (Try.prog.info? 5).bind (·.zero) = some (.int .u8 0) := by kernel_rfl
theorem z25 : (Try.prog.info? 25).bind (·.zero) = some (.agg #[.int .u16 0, .slice .none 0 0]) := by kernel_rfl
theorem un23 : Try.prog.underlying 23 = some (.slice 28) := by kernel_rfl
theorem un27 : Try.prog.underlying 27 = some (.slice 3) := by kernel_rfl
theorem un28 : Try.prog.underlying 28 = some (.slice 5) := by kernel_rfl
theorem by23 : bytesB Try.prog 23 (.sl (.int .u8)) = true := by kernel_rfl
theorem by27 : bytesB Try.prog 27 (.int .i64) = true := by kernel_rfl
theorem by28 : bytesB Try.prog 28 (.int .u8) = true := by kernel_rfl
@[reducible] def gf0 : GT := .pair (.int .u16) (.sl (.sl (.int .u8)))
@[reducible] def gt0 : GT := .st gf0

end Go.Proofs.Ytlgalcekkffhnaa
