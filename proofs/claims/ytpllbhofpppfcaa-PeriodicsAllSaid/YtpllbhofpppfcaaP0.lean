/- Functions of the program, as plain data. -/
import Derived.Test.YtpllbhofpppfcaaXE27
set_option linter.unusedVariables false
set_option linter.unusedSimpArgs false
namespace Go.Proofs.Ytpllbhofpppfcaa
open Go.RowKit

def tys : List (TypeId × GT) := [(3, .int .i64), (4, .bool), (5, .int .u8), (9, .str), (22, .arr 2 (.int .i64)), (23, .int .i64), (26, .int .u8), (27, .int .u8), (35, .arr 3 (.int .i64)), (37, .sl (.int .i64)), (40, .sl (.sl (.int .u8))), (42, .st (.pair .bool (.pair (.int .u8) (.pair (.int .i64) (.pair (.sl (.sl (.int .u8))) (.int .i64)))))), (45, .sl (.st (.pair (.int .i64) (.sl (.int .u8))))), (47, .st (.pair (.st (.pair .bool (.pair (.int .u8) (.pair (.int .i64) (.pair (.sl (.sl (.int .u8))) (.int .i64)))))) (.pair (.int .i64) (.sl (.st (.pair (.int .i64) (.sl (.int .u8)))))))), (51, .sl (.int .u8)), (53, .st (.pair (.int .u8) (.pair (.int .u8) (.pair (.int .u8) (.pair .bool (.pair .bool (.pair (.int .i64) (.sl (.int .u8))))))))), (59, .int .u8), (61, .st (.pair (.int .u8) (.sl (.int .u8)))), (64, .st (.pair (.int .i64) (.sl (.int .u8)))), (69, .arr 7 (.int .i64))]
theorem tys_ok : tysOk Try.prog tys = true := by kernel_rfl
theorem ty3 : tie Try.prog (.int .i64) false 3 [] 0 = true := gtOf.tie tys_ok (by kernel_rfl)
theorem ty4 : tie Try.prog .bool false 4 [] 0 = true := gtOf.tie tys_ok (by kernel_rfl)
theorem ty5 : tie Try.prog (.int .u8) false 5 [] 0 = true := gtOf.tie tys_ok (by kernel_rfl)
theorem ty9 : tie Try.prog .str false 9 [] 0 = true := gtOf.tie tys_ok (by kernel_rfl)
theorem ty22 : tie Try.prog (.arr 2 (.int .i64)) false 22 [] 0 = true := gtOf.tie tys_ok (by kernel_rfl)
theorem ty23 : tie Try.prog (.int .i64) false 23 [] 0 = true := gtOf.tie tys_ok (by kernel_rfl)
theorem ty26 : tie Try.prog (.int .u8) false 26 [] 0 = true := gtOf.tie tys_ok (by kernel_rfl)
theorem ty27 : tie Try.prog (.int .u8) false 27 [] 0 = true := gtOf.tie tys_ok (by kernel_rfl)
theorem ty35 : tie Try.prog (.arr 3 (.int .i64)) false 35 [] 0 = true := gtOf.tie tys_ok (by kernel_rfl)
theorem ty37 : tie Try.prog (.sl (.int .i64)) false 37 [] 0 = true := gtOf.tie tys_ok (by kernel_rfl)
theorem ty40 : tie Try.prog (.sl (.sl (.int .u8))) false 40 [] 0 = true := gtOf.tie tys_ok (by kernel_rfl)
theorem ty42 : tie Try.prog (.st (.pair .bool (.pair (.int .u8) (.pair (.int .i64) (.pair (.sl (.sl (.int .u8))) (.int .i64)))))) false 42 [] 0 = true := gtOf.tie tys_ok (by kernel_rfl)
theorem ty45 : tie Try.prog (.sl (.st (.pair (.int .i64) (.sl (.int .u8))))) false 45 [] 0 = true := gtOf.tie tys_ok (by kernel_rfl)
theorem ty47 : tie Try.prog (.st (.pair (.st (.pair .bool (.pair (.int .u8) (.pair (.int .i64) (.pair (.sl (.sl (.int .u8))) (.int .i64)))))) (.pair (.int .i64) (.sl (.st (.pair (.int .i64) (.sl (.int .u8)))))))) false 47 [] 0 = true := gtOf.tie tys_ok (by kernel_rfl)
theorem ty51 : tie Try.prog (.sl (.int .u8)) false 51 [] 0 = true := gtOf.tie tys_ok (by kernel_rfl)
theorem ty53 : tie Try.prog (.st (.pair (.int .u8) (.pair (.int .u8) (.pair (.int .u8) (.pair .bool (.pair .bool (.pair (.int .i64) (.sl (.int .u8))))))))) false 53 [] 0 = true := gtOf.tie tys_ok (by kernel_rfl)
theorem ty59 : tie Try.prog (.int .u8) false 59 [] 0 = true := gtOf.tie tys_ok (by kernel_rfl)
theorem ty61 : tie Try.prog (.st (.pair (.int .u8) (.sl (.int .u8)))) false 61 [] 0 = true := gtOf.tie tys_ok (by kernel_rfl)
theorem ty64 : tie Try.prog (.st (.pair (.int .i64) (.sl (.int .u8)))) false 64 [] 0 = true := gtOf.tie tys_ok (by kernel_rfl)
theorem ty69 : tie Try.prog (.arr 7 (.int .i64)) false 69 [] 0 = true := gtOf.tie tys_ok (by kernel_rfl)
theorem tyw64_1 : tie Try.prog (.st (.pair (.int .i64) .raw)) false 64 [] 0 = true := by kernel_rfl
theorem tyr37 : tie Try.prog .raw false 37 [] 0 = true := by kernel_rfl
theorem tyr40 : tie Try.prog .raw false 40 [] 0 = true := by kernel_rfl
theorem tyr45 : tie Try.prog .raw false 45 [] 0 = true := by kernel_rfl
theorem tyr51 : tie Try.prog .raw false 51 [] 0 = true := by kernel_rfl
theorem z5 : (Try.prog.info? 5).bind (·.zero) = some (.int .u8 0) := by kernel_rfl
theorem z37 : (Try.prog.info? 37).bind (·.zero) = some (.slice .none 0 0) := by kernel_rfl
theorem z42 : (Try.prog.info? 42).bind (·.zero) = some (.agg #[.bool false, .int .u8 0, .int .i64 0, .slice .none 0 0, .int .i64 0]) := by kernel_rfl
theorem z47 : (Try.prog.info? 47).bind (·.zero) = some (.agg #[.bool false, .int .u8 0, .int .i64 0, .slice .none 0 0, .int .i64 0, .int .i64 0, .slice .none 0 0]) := by kernel_rfl
theorem z53 : (Try.prog.info? 53).bind (·.zero) = some (.agg #[.int .u8 0, .int .u8 0, .int .u8 0, .bool false, .bool false, .int .i64 0, .slice .none 0 0]) := by kernel_rfl
theorem z61 : (Try.prog.info? 61).bind (·.zero) = some (.agg #[.int .u8 0, .slice .none 0 0]) := by kernel_rfl
theorem z64 : (Try.prog.info? 64).bind (·.zero) = some (.agg #[.int .i64 0, .slice .none 0 0]) := by kernel_rfl
theorem z69 : (Try.prog.info? 69).bind (·.zero) = some (.agg #[.int .i64 0, .int .i64 0, .int .i64 0, .int .i64 0, .int .i64 0, .int .i64 0, .int .i64 0]) := by kernel_rfl
theorem fn66 : funcB Try.prog 66 = true := by kernel_rfl
theorem fn70 : funcB Try.prog 70 = true := by kernel_rfl
theorem un37 : Try.prog.underlying 37 = some (.slice 3) := by kernel_rfl
theorem un40 : Try.prog.underlying 40 = some (.slice 51) := by kernel_rfl
theorem un45 : Try.prog.underlying 45 = some (.slice 64) := by kernel_rfl
theorem un51 : Try.prog.underlying 51 = some (.slice 5) := by kernel_rfl
theorem by37 : bytesB Try.prog 37 (.int .i64) = true := by kernel_rfl
theorem by40 : bytesB Try.prog 40 (.sl (.int .u8)) = true := by kernel_rfl
theorem by45 : bytesB Try.prog 45 (.st (.pair (.int .i64) (.sl (.int .u8)))) = true := by kernel_rfl
theorem by51 : bytesB Try.prog 51 (.int .u8) = true := by kernel_rfl

end Go.Proofs.Ytpllbhofpppfcaa
