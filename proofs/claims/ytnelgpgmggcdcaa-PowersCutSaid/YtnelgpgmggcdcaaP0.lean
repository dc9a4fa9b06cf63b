/- Functions of the program, as plain data. -/
import Derived.Test.YtnelgpgmggcdcaaXE29
set_option linter.unusedVariables false
set_option linter.unusedSimpArgs false
namespace Go.Proofs.Ytnelgpgmggcdcaa
open Go.RowKit

def tys : List (TypeId × GT) := [(3, .int .i64), (4, .bool), (5, .int .u8), (23, .sl (.st (.pair (.int .u8) (.pair (.int .u8) (.pair (.int .u8) (.int .u16)))))), (24, .sl (.st (.pair (.int .i64) (.pair (.int .u8) (.pair .bool (.pair .bool (.pair .bool (.pair .bool (.int .i64))))))))), (26, .arr 128 (.int .i64)), (27, .sl (.int .i64)), (32, .st (.pair (.int .i64) (.pair (.int .u8) (.pair .bool (.pair .bool (.pair .bool (.pair .bool (.int .i64)))))))), (33, .int .i64), (48, .int .u16), (51, .st (.pair (.int .u8) (.pair (.int .u8) (.pair (.int .u8) (.int .u16))))), (52, .arr 8 (.int .i64)), (53, .sl .bool)]
theorem tys_ok : tysOk Try.prog tys = true := by kernel_rfl
theorem ty3 : tie Try.prog (.int .i64) false 3 [] 0 = true := gtOf.tie tys_ok (by kernel_rfl)
theorem ty4 : tie Try.prog .bool false 4 [] 0 = true := gtOf.tie tys_ok (by kernel_rfl)
theorem ty5 : tie Try.prog (.int .u8) false 5 [] 0 = true := gtOf.tie tys_ok (by kernel_rfl)
theorem ty23 : tie Try.prog (.sl (.st (.pair (.int .u8) (.pair (.int .u8) (.pair (.int .u8) (.int .u16)))))) false 23 [] 0 = true := gtOf.tie tys_ok (by kernel_rfl)
theorem ty24 : tie Try.prog (.sl (.st (.pair (.int .i64) (.pair (.int .u8) (.pair .bool (.pair .bool (.pair .bool (.pair .bool (.int .i64))))))))) false 24 [] 0 = true := gtOf.tie tys_ok (by kernel_rfl)
theorem ty26 : tie Try.prog (.arr 128 (.int .i64)) false 26 [] 0 = true := gtOf.tie tys_ok (by kernel_rfl)
theorem ty27 : tie Try.prog (.sl (.int .i64)) false 27 [] 0 = true := gtOf.tie tys_ok (by kernel_rfl)
theorem ty32 : tie Try.prog (.st (.pair (.int .i64) (.pair (.int .u8) (.pair .bool (.pair .bool (.pair .bool (.pair .bool (.int .i64)))))))) false 32 [] 0 = true := gtOf.tie tys_ok (by kernel_rfl)
theorem ty33 : tie Try.prog (.int .i64) false 33 [] 0 = true := gtOf.tie tys_ok (by kernel_rfl)
theorem ty48 : tie Try.prog (.int .u16) false 48 [] 0 = true := gtOf.tie tys_ok (by kernel_rfl)
theorem ty51 : tie Try.prog (.st (.pair (.int .u8) (.pair (.int .u8) (.pair (.int .u8) (.int .u16))))) false 51 [] 0 = true := gtOf.tie tys_ok (by kernel_rfl)
theorem ty52 : tie Try.prog (.arr 8 (.int .i64)) false 52 [] 0 = true := gtOf.tie tys_ok (by kernel_rfl)
theorem ty53 : tie Try.prog (.sl .bool) false 53 [] 0 = true := gtOf.tie tys_ok (by kernel_rfl)
theorem tyr27 : tie Try.prog .raw false 27 [] 0 = true := by kernel_rfl
theorem tyr53 : tie Try.prog .raw false 53 [] 0 = true := by kernel_rfl
theorem z3 : (Try.prog.info? 3).bind (·.zero) = some (.int .i64 0) := by kernel_rfl
theorem z4 : (Try.prog.info? 4).bind (·.zero) = some (.bool false) := by kernel_rfl
theorem z26 : (Try.prog.info? 26).bind (·.zero) = some (.agg #[.int .i64 0, .int .i64 0, .int .i64 0, .int .i64 0, .int .i64 0, .int .i64 0, .int .i64 0, .int .i64 0, .int .i64 0, .int .i64 0, .int .i64 0, .int .i64 0, .int .i64 0, .int .i64 0, .int .i64 0, .int .i64 0, .int .i64 0, .int .i64 0, .int .i64 0, .int .i64 0, .int .i64 0, .int .i64 0, .int .i64 0, .int .i64 0, .int .i64 0, .int .i64 0, .int .i64 0, .int .i64 0, .int .i64 0, .int .i64 0, .int .i64 0, .int .i64 0, .int .i64 0, .int .i64 0, .int .i64 0, .int .i64 0, .int .i64 0, .int .i64 0, .int .i64 0, .int .i64 0, .int .i64 0, .int .i64 0, .int .i64 0, .int .i64 0, .int .i64 0, .int .i64 0, .int .i64 0, .int .i64 0, .int .i64 0, .int .i64 0, .int .i64 0, .int .i64 0, .int .i64 0, .int .i64 0, .int .i64 0, .int .i64 0, .int .i64 0, .int .i64 0, .int .i64 0, .int .i64 0, .int .i64 0, .int .i64 0, .int .i64 0, .int .i64 0, .int .i64 0, .int .i64 0, .int .i64 0, .int .i64 0, .int .i64 0, .int .i64 0, .int .i64 0, .int .i64 0, .int .i64 0, .int .i64 0, .int .i64 0, .int .i64 0, .int .i64 0, .int .i64 0, .int .i64 0, .int .i64 0, .int .i64 0, .int .i64 0, .int .i64 0, .int .i64 0, .int .i64 0, .int .i64 0, .int .i64 0, .int .i64 0, .int .i64 0, .int .i64 0, .int .i64 0, .int .i64 0, .int .i64 0, .int .i64 0, .int .i64 0, .int .i64 0, .int .i64 0, .int .i64 0, .int .i64 0, .int .i64 0, .int .i64 0, .int .i64 0, .int .i64 0, .int .i64 0, .int .i64 0, .int .i64 0, .int .i64 0, .int .i64 0, .int .i64 0, .int .i64 0, .int .i64 0, .int .i64 0, .int .i64 0, .int .i64 0, .int .i64 0, .int .i64 0, .int .i64 0, .int .i64 0, .int .i64 0, .int .i64 0, .int .i64 0, .int .i64 0, .int .i64 0, .int .i64 0, .int .i64 0, .int .i64 0, .int .i64 0, .int .i64 0]) := by kernel_rfl
theorem z27 : (Try.prog.info? 27).bind (·.zero) = some (.slice .none 0 0) := by kernel_rfl
theorem z32 : (Try.prog.info? 32).bind (·.zero) = some (.agg #[.int .i64 0, .int .u8 0, .bool false, .bool false, .bool false, .bool false, .int .i64 0]) := by kernel_rfl
theorem z33 : (Try.prog.info? 33).bind (·.zero) = some (.int .i64 0) := by kernel_rfl
theorem z52 : (Try.prog.info? 52).bind (·.zero) = some (.agg #[.int .i64 0, .int .i64 0, .int .i64 0, .int .i64 0, .int .i64 0, .int .i64 0, .int .i64 0, .int .i64 0]) := by kernel_rfl
theorem z53 : (Try.prog.info? 53).bind (·.zero) = some (.slice .none 0 0) := by kernel_rfl
theorem un24 : Try.prog.underlying 24 = some (.slice 32) := by kernel_rfl
theorem un27 : Try.prog.underlying 27 = some (.slice 3) := by kernel_rfl
theorem un53 : Try.prog.underlying 53 = some (.slice 4) := by kernel_rfl
theorem by24 : bytesB Try.prog 24 (.st (.pair (.int .i64) (.pair (.int .u8) (.pair .bool (.pair .bool (.pair .bool (.pair .bool (.int .i64)))))))) = true := by kernel_rfl
theorem by27 : bytesB Try.prog 27 (.int .i64) = true := by kernel_rfl
theorem by53 : bytesB Try.prog 53 .bool = true := by kernel_rfl
theorem cb35 : callB Try.prog 35 = true := by kernel_rfl
theorem cb39 : callB Try.prog 39 = true := by kernel_rfl
@[reducible] def gf0 : GT := .pair (.int .u8) (.pair (.int .u8) (.pair (.int .u8) (.int .u16)))
@[reducible] def gt0 : GT := .st gf0
@[reducible] def gf1 : GT := .pair (.int .i64) (.pair (.int .u8) (.pair .bool (.pair .bool (.pair .bool (.pair .bool (.int .i64))))))
@[reducible] def gt1 : GT := .st gf1

end Go.Proofs.Ytnelgpgmggcdcaa
