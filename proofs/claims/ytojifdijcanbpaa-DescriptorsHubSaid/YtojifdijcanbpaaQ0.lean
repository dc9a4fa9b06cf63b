/- x. -/
import Derived.Test.YtojifdijcanbpaaS11
import Derived.Test.YtojifdijcanbpaaXE21
set_option linter.unusedVariables false
set_option linter.unusedSimpArgs false
namespace Go.Proofs.Ytojifdijcanbpaa
open Go.RowKit

def tys : List (TypeId × GT) := [(3, .int .i64), (4, .bool), (5, .int .u8), (9, .str), (23, .sl (.int .u8)), (28, .int .i64), (32, .int .u8), (33, .int .u16), (35, .st (.pair (.int .u8) (.pair .bool (.pair (.int .u8) (.pair (.int .u16) (.int .u8)))))), (36, .int .u8), (41, .arr 3 (.int .u16)), (43, .st (.pair (.int .u8) (.pair (.int .u8) (.pair (.int .u8) (.pair (.int .u8) (.arr 3 (.int .u16))))))), (47, .st (.pair (.int .u16) (.pair (.int .u8) (.pair (.int .u8) (.pair (.int .u8) (.pair (.int .u8) (.pair (.int .u16) (.pair (.int .u16) (.pair (.int .u16) (.pair (.int .u8) (.pair (.int .u8) (.pair (.int .u8) (.int .u8))))))))))))), (51, .st (.pair (.int .u16) (.pair (.int .u8) (.pair (.int .u8) (.pair (.int .u8) (.pair .bool (.pair .bool (.int .u8)))))))), (64, .sl .bool), (66, .st (.pair (.int .u8) (.pair (.int .u8) (.pair (.int .u8) (.sl .bool)))))]
theorem tys_ok : tysOk Try.prog tys = true := by kernel_rfl
theorem ty3 : tie Try.prog (.int .i64) false 3 [] 0 = true := gtOf.tie tys_ok (by kernel_rfl)
theorem ty4 : tie Try.prog .bool false 4 [] 0 = true := gtOf.tie tys_ok (by kernel_rfl)
theorem ty5 : tie Try.prog (.int .u8) false 5 [] 0 = true := gtOf.tie tys_ok (by kernel_rfl)
theorem ty9 : tie Try.prog .str false 9 [] 0 = true := gtOf.tie tys_ok (by kernel_rfl)
theorem ty23 : tie Try.prog (.sl (.int .u8)) false 23 [] 0 = true := gtOf.tie tys_ok (by kernel_rfl)
theorem ty28 : tie Try.prog (.int .i64) false 28 [] 0 = true := gtOf.tie tys_ok (by kernel_rfl)
theorem ty32 : tie Try.prog (.int .u8) false 32 [] 0 = true := gtOf.tie tys_ok (by kernel_rfl)
theorem ty33 : tie Try.prog (.int .u16) false 33 [] 0 = true := gtOf.tie tys_ok (by kernel_rfl)
theorem ty35 : tie Try.prog (.st (.pair (.int .u8) (.pair .bool (.pair (.int .u8) (.pair (.int .u16) (.int .u8)))))) false 35 [] 0 = true := gtOf.tie tys_ok (by kernel_rfl)
theorem ty36 : tie Try.prog (.int .u8) false 36 [] 0 = true := gtOf.tie tys_ok (by kernel_rfl)
theorem ty41 : tie Try.prog (.arr 3 (.int .u16)) false 41 [] 0 = true := gtOf.tie tys_ok (by kernel_rfl)
theorem ty43 : tie Try.prog (.st (.pair (.int .u8) (.pair (.int .u8) (.pair (.int .u8) (.pair (.int .u8) (.arr 3 (.int .u16))))))) false 43 [] 0 = true := gtOf.tie tys_ok (by kernel_rfl)
theorem ty47 : tie Try.prog (.st (.pair (.int .u16) (.pair (.int .u8) (.pair (.int .u8) (.pair (.int .u8) (.pair (.int .u8) (.pair (.int .u16) (.pair (.int .u16) (.pair (.int .u16) (.pair (.int .u8) (.pair (.int .u8) (.pair (.int .u8) (.int .u8))))))))))))) false 47 [] 0 = true := gtOf.tie tys_ok (by kernel_rfl)
theorem ty51 : tie Try.prog (.st (.pair (.int .u16) (.pair (.int .u8) (.pair (.int .u8) (.pair (.int .u8) (.pair .bool (.pair .bool (.int .u8)))))))) false 51 [] 0 = true := gtOf.tie tys_ok (by kernel_rfl)
theorem ty64 : tie Try.prog (.sl .bool) false 64 [] 0 = true := gtOf.tie tys_ok (by kernel_rfl)
theorem ty66 : tie Try.prog (.st (.pair (.int .u8) (.pair (.int .u8) (.pair (.int .u8) (.sl .bool))))) false 66 [] 0 = true := gtOf.tie tys_ok (by kernel_rfl)
theorem tyw66_3 : tie Try.prog (.st (.pair (.int .u8) (.pair (.int .u8) (.pair (.int .u8) .raw)))) false 66 [] 0 = true := by kernel_rfl
theorem tyr64 : tie Try.prog .raw false 64 [] 0 = true := by kernel_rfl
theorem z4 : (Try.prog.info? 4).bind (·.zero) = some (.bool false) := by kernel_rfl
theorem z5 : (Try.prog.info? 5).bind (·.zero) = some (.int .u8 0) := by kernel_rfl
theorem z35 : (Try.prog.info? 35).bind (·.zero) = some (.agg #[.int .u8 0, .bool false, .int .u8 0, .int .u16 0, .int .u8 0]) := by kernel_rfl
theorem z47 : (Try.prog.info? 47).bind (·.zero) = some (.agg #[.int .u16 0, .int .u8 0, .int .u8 0, .int .u8 0, .int .u8 0, .int .u16 0, .int .u16 0, .int .u16 0, .int .u8 0, .int .u8 0, .int .u8 0, .int .u8 0]) := by kernel_rfl
theorem z51 : (Try.prog.info? 51).bind (·.zero) = some (.agg #[.int .u16 0, .int .u8 0, .int .u8 0, .int .u8 0, .bool false, .bool false, .int .u8 0]) := by kernel_rfl
theorem z66 : (Try.prog.info? 66).bind (·.zero) = some (.agg #[.int .u8 0, .int .u8 0, .int .u8 0, .slice .none 0 0]) := by kernel_rfl
theorem eq35 : eqB Try.prog 35 = true := by kernel_rfl
theorem eq47 : eqB Try.prog 47 = true := by kernel_rfl
theorem eq51 : eqB Try.prog 51 = true := by kernel_rfl
theorem un23 : Try.prog.underlying 23 = some (.slice 5) := by kernel_rfl
theorem un64 : Try.prog.underlying 64 = some (.slice 4) := by kernel_rfl
theorem by23 : bytesB Try.prog 23 (.int .u8) = true := by kernel_rfl
theorem by64 : bytesB Try.prog 64 .bool = true := by kernel_rfl
theorem cb11 : callB Try.prog 11 = true := by kernel_rfl

end Go.Proofs.Ytojifdijcanbpaa
