/- Functions of the program, as plain data. -/
import Derived.Test.YtflieonbbggmhaaXE31
set_option linter.unusedVariables false
set_option linter.unusedSimpArgs false
namespace Go.Proofs.Ytflieonbbggmhaa
open Go.RowKit

def tys : List (TypeId × GT) := [(3, .int .i64), (4, .bool), (5, .int .u8), (22, .sl (.st (.pair (.int .u8) (.pair (.int .u8) (.pair .bool (.int .u8)))))), (25, .sl (.st (.pair (.sl (.int .u8)) (.pair .bool (.pair .bool (.pair .bool (.int .i64))))))), (26, .sl (.st (.pair (.sl (.int .u8)) .bool))), (27, .int .i64), (31, .st (.pair (.int .u8) (.pair (.int .u8) (.pair .bool (.int .u8))))), (32, .sl .bool), (34, .sl (.int .u8)), (35, .sl (.int .u8)), (37, .st (.pair (.sl (.int .u8)) (.pair .bool (.pair .bool (.pair .bool (.int .i64)))))), (39, .st (.pair (.sl (.int .u8)) .bool)), (44, .arr 2 (.int .i64)), (73, .sl (.sl (.st (.pair (.sl (.int .u8)) (.pair .bool (.pair .bool (.pair .bool (.int .i64))))))))]
theorem tys_ok : tysOk Try.prog tys = true := by kernel_rfl
theorem ty3 : tie Try.prog (.int .i64) false 3 [] 0 = true := gtOf.tie tys_ok (by kernel_rfl)
theorem ty4 : tie Try.prog .bool false 4 [] 0 = true := gtOf.tie tys_ok (by kernel_rfl)
theorem ty5 : tie Try.prog (.int .u8) false 5 [] 0 = true := gtOf.tie tys_ok (by kernel_rfl)
theorem ty22 : tie Try.prog (.sl (.st (.pair (.int .u8) (.pair (.int .u8) (.pair .bool (.int .u8)))))) false 22 [] 0 = true := gtOf.tie tys_ok (by kernel_rfl)
theorem ty25 : tie Try.prog (.sl (.st (.pair (.sl (.int .u8)) (.pair .bool (.pair .bool (.pair .bool (.int .i64))))))) false 25 [] 0 = true := gtOf.tie tys_ok (by kernel_rfl)
theorem ty26 : tie Try.prog (.sl (.st (.pair (.sl (.int .u8)) .bool))) false 26 [] 0 = true := gtOf.tie tys_ok (by kernel_rfl)
theorem ty27 : tie Try.prog (.int .i64) false 27 [] 0 = true := gtOf.tie tys_ok (by kernel_rfl)
theorem ty31 : tie Try.prog (.st (.pair (.int .u8) (.pair (.int .u8) (.pair .bool (.int .u8))))) false 31 [] 0 = true := gtOf.tie tys_ok (by kernel_rfl)
theorem ty32 : tie Try.prog (.sl .bool) false 32 [] 0 = true := gtOf.tie tys_ok (by kernel_rfl)
theorem ty34 : tie Try.prog (.sl (.int .u8)) false 34 [] 0 = true := gtOf.tie tys_ok (by kernel_rfl)
theorem ty35 : tie Try.prog (.sl (.int .u8)) false 35 [] 0 = true := gtOf.tie tys_ok (by kernel_rfl)
theorem ty37 : tie Try.prog (.st (.pair (.sl (.int .u8)) (.pair .bool (.pair .bool (.pair .bool (.int .i64)))))) false 37 [] 0 = true := gtOf.tie tys_ok (by kernel_rfl)
theorem ty39 : tie Try.prog (.st (.pair (.sl (.int .u8)) .bool)) false 39 [] 0 = true := gtOf.tie tys_ok (by kernel_rfl)
theorem ty44 : tie Try.prog (.arr 2 (.int .i64)) false 44 [] 0 = true := gtOf.tie tys_ok (by kernel_rfl)
theorem ty73 : tie Try.prog (.sl (.sl (.st (.pair (.sl (.int .u8)) (.pair .bool (.pair .bool (.pair .bool (.int .i64)))))))) false 73 [] 0 = true := gtOf.tie tys_ok (by kernel_rfl)
theorem tyr25 : tie Try.prog .raw false 25 [] 0 = true := by kernel_rfl
theorem tyr26 : tie Try.prog .raw false 26 [] 0 = true := by kernel_rfl
theorem z4 : (Try.prog.info? 4).bind (·.zero) = some (.bool false) := by kernel_rfl
theorem z25 : (Try.prog.info? 25).bind (·.zero) = some (.slice .none 0 0) := by kernel_rfl
theorem z26 : (Try.prog.info? 26).bind (·.zero) = some (.slice .none 0 0) := by kernel_rfl
theorem z37 : (Try.prog.info? 37).bind (·.zero) = some (.agg #[.slice .none 0 0, .bool false, .bool false, .bool false, .int .i64 0]) := by kernel_rfl
theorem z39 : (Try.prog.info? 39).bind (·.zero) = some (.agg #[.slice .none 0 0, .bool false]) := by kernel_rfl
theorem un25 : Try.prog.underlying 25 = some (.slice 37) := by kernel_rfl
theorem un26 : Try.prog.underlying 26 = some (.slice 39) := by kernel_rfl
theorem un32 : Try.prog.underlying 32 = some (.slice 4) := by kernel_rfl
theorem un35 : Try.prog.underlying 35 = some (.slice 5) := by kernel_rfl
theorem by25 : bytesB Try.prog 25 (.st (.pair (.sl (.int .u8)) (.pair .bool (.pair .bool (.pair .bool (.int .i64)))))) = true := by kernel_rfl
theorem by26 : bytesB Try.prog 26 (.st (.pair (.sl (.int .u8)) .bool)) = true := by kernel_rfl
theorem by32 : bytesB Try.prog 32 .bool = true := by kernel_rfl
theorem by35 : bytesB Try.prog 35 (.int .u8) = true := by kernel_rfl
theorem cb27 : callB Try.prog 27 = true := by kernel_rfl
theorem cb34 : callB Try.prog 34 = true := by kernel_rfl
theorem cb40 : callB Try.prog 40 = true := by kernel_rfl
theorem cb43 : callB Try.prog 43 = true := by kernel_rfl
theorem cb45 : callB Try.prog 45 = true := by kernel_rfl
theorem cb48 : callB Try.prog 48 = true := by kernel_rfl
@[reducible] def gf0 : GT := .pair (.sl (.int .u8)) .bool
@[reducible] def gt0 : GT := .st gf0
@[reducible] def gf1 : GT := .pair (.int .u8) (.pair (.int .u8) (.pair .bool (.int .u8)))
@[reducible] def gt1 : GT := .st gf1
@[reducible] def gf2 : GT := .pair (.sl (.int .u8)) (.pair .bool (.pair .bool (.pair .bool (.int .i64))))
@[reducible] def gt2 : GT := .st gf2

end Go.Proofs.Ytflieonbbggmhaa
