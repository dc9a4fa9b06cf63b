/- Functions of the program, as plain data. -/
import Derived.Test.YtmcpcdmonglkjaaXE36
set_option linter.unusedVariables false
set_option linter.unusedSimpArgs false
namespace Go.Proofs.Ytmcpcdmonglkjaa
open Go.RowKit
set_option maxHeartbeats 4000000
set_option maxRecDepth 100000

def tys:List (TypeId × GT):=[(3,.int .i64),(4,.bool),(5,.int .u8),(23,.sl (.st (.pair (.sl (.int .u8)) (.pair (.int .u8) (.int .u8))))),(24,.sl (.int .u8)),(25,.sl (.int .u8)),(26,.int .i64),(29,.int .u8),(31,.st (.pair (.int .i64) (.pair (.int .u8) (.pair (.sl (.int .u8)) (.int .u8))))),(33,.st (.pair (.sl (.int .u8)) (.pair (.int .u8) (.int .u8)))),(38,.sl (.st (.pair (.int .u8) (.pair (.int .u8) (.pair (.int .u8) (.int .u8)))))),(40,.st (.pair (.int .u8) (.pair (.int .u8) (.pair (.int .u8) (.int .u8))))),(48,.sl (.st (.pair (.int .i64) (.pair (.int .u8) (.pair (.sl (.int .u8)) (.int .u8)))))),(52,.int .u64),(66,.st (.pair .bool (.pair .bool (.pair (.int .i64) (.pair (.sl (.st (.pair (.sl (.int .u8)) (.pair (.int .u8) (.int .u8))))) (.sl (.st (.pair (.int .i64) (.pair (.int .u8) (.pair (.sl (.int .u8)) (.int .u8))))))))))),(77,.sl (.int .i64)),(83,.sl (.sl (.st (.pair (.sl (.int .u8)) (.pair (.int .u8) (.int .u8))))))]
theorem tys_ok:tysOk Try.prog tys = true:=by kernel_rfl
theorem ty3:tie Try.prog (.int .i64) false 3 [] 0 = true:=gtOf.tie tys_ok (by kernel_rfl)
theorem ty4:tie Try.prog .bool false 4 [] 0 = true:=gtOf.tie tys_ok (by kernel_rfl)
theorem ty5:tie Try.prog (.int .u8) false 5 [] 0 = true:=gtOf.tie tys_ok (by kernel_rfl)
theorem ty23:tie Try.prog (.sl (.st (.pair (.sl (.int .u8)) (.pair (.int .u8) (.int .u8))))) false 23 [] 0 = true:=gtOf.tie tys_ok (by kernel_rfl)
theorem ty24:tie Try.prog (.sl (.int .u8)) false 24 [] 0 = true:=gtOf.tie tys_ok (by kernel_rfl)
theorem ty25:tie Try.prog (.sl (.int .u8)) false 25 [] 0 = true:=gtOf.tie tys_ok (by kernel_rfl)
theorem ty26:tie Try.prog (.int .i64) false 26 [] 0 = true:=gtOf.tie tys_ok (by kernel_rfl)
theorem ty29:tie Try.prog (.int .u8) false 29 [] 0 = true:=gtOf.tie tys_ok (by kernel_rfl)
theorem ty31:tie Try.prog (.st (.pair (.int .i64) (.pair (.int .u8) (.pair (.sl (.int .u8)) (.int .u8))))) false 31 [] 0 = true:=gtOf.tie tys_ok (by kernel_rfl)
theorem ty33:tie Try.prog (.st (.pair (.sl (.int .u8)) (.pair (.int .u8) (.int .u8)))) false 33 [] 0 = true:=gtOf.tie tys_ok (by kernel_rfl)
theorem ty38:tie Try.prog (.sl (.st (.pair (.int .u8) (.pair (.int .u8) (.pair (.int .u8) (.int .u8)))))) false 38 [] 0 = true:=gtOf.tie tys_ok (by kernel_rfl)
theorem ty40:tie Try.prog (.st (.pair (.int .u8) (.pair (.int .u8) (.pair (.int .u8) (.int .u8))))) false 40 [] 0 = true:=gtOf.tie tys_ok (by kernel_rfl)
theorem ty48:tie Try.prog (.sl (.st (.pair (.int .i64) (.pair (.int .u8) (.pair (.sl (.int .u8)) (.int .u8)))))) false 48 [] 0 = true:=gtOf.tie tys_ok (by kernel_rfl)
theorem ty52:tie Try.prog (.int .u64) false 52 [] 0 = true:=gtOf.tie tys_ok (by kernel_rfl)
theorem ty66:tie Try.prog (.st (.pair .bool (.pair .bool (.pair (.int .i64) (.pair (.sl (.st (.pair (.sl (.int .u8)) (.pair (.int .u8) (.int .u8))))) (.sl (.st (.pair (.int .i64) (.pair (.int .u8) (.pair (.sl (.int .u8)) (.int .u8))))))))))) false 66 [] 0 = true:=gtOf.tie tys_ok (by kernel_rfl)
theorem ty77:tie Try.prog (.sl (.int .i64)) false 77 [] 0 = true:=gtOf.tie tys_ok (by kernel_rfl)
theorem ty83:tie Try.prog (.sl (.sl (.st (.pair (.sl (.int .u8)) (.pair (.int .u8) (.int .u8)))))) false 83 [] 0 = true:=gtOf.tie tys_ok (by kernel_rfl)
theorem tyw66_4:tie Try.prog (.st (.pair .bool (.pair .bool (.pair (.int .i64) (.pair (.sl (.st (.pair (.sl (.int .u8)) (.pair (.int .u8) (.int .u8))))) .raw))))) false 66 [] 0 = true:=by kernel_rfl
theorem tyr25:tie Try.prog .raw false 25 [] 0 = true:=by kernel_rfl
theorem tyr48:tie Try.prog .raw false 48 [] 0 = true:=by kernel_rfl
theorem z31:(Try.prog.info? 31).bind (·.zero) = some (.agg #[.int .i64 0,.int .u8 0,.slice .none 0 0,.int .u8 0]):=by kernel_rfl
theorem z33:(Try.prog.info? 33).bind (·.zero) = some (.agg #[.slice .none 0 0,.int .u8 0,.int .u8 0]):=by kernel_rfl
theorem z66:(Try.prog.info? 66).bind (·.zero) = some (.agg #[.bool false,.bool false,.int .i64 0,.slice .none 0 0,.slice .none 0 0]):=by kernel_rfl
theorem st72:SetTy Try.prog 72 70 5 4 .u8:=SetTy.of (by kernel_rfl)
theorem ptr53:ptrB Try.prog 53 = true:=by kernel_rfl
theorem un23:Try.prog.underlying 23 = some (.slice 33):=by kernel_rfl
theorem un25:Try.prog.underlying 25 = some (.slice 5):=by kernel_rfl
theorem un48:Try.prog.underlying 48 = some (.slice 31):=by kernel_rfl
theorem by23:bytesB Try.prog 23 (.st (.pair (.sl (.int .u8)) (.pair (.int .u8) (.int .u8)))) = true:=by kernel_rfl
theorem by25:bytesB Try.prog 25 (.int .u8) = true:=by kernel_rfl
theorem by48:bytesB Try.prog 48 (.st (.pair (.int .i64) (.pair (.int .u8) (.pair (.sl (.int .u8)) (.int .u8))))) = true:=by kernel_rfl
theorem cb47:callB Try.prog 47 = true:=by kernel_rfl
theorem cb52:callB Try.prog 52 = true:=by kernel_rfl
theorem cb59:callB Try.prog 59 = true:=by kernel_rfl
theorem cb63:callB Try.prog 63 = true:=by kernel_rfl
theorem cb68:callB Try.prog 68 = true:=by kernel_rfl
@[reducible] def gf0:GT:=.pair (.sl (.int .u8)) (.pair (.int .u8) (.int .u8))
@[reducible] def gt0:GT:=.st gf0
@[reducible] def gf1:GT:=.pair (.int .u8) (.pair (.int .u8) (.pair (.int .u8) (.int .u8)))
@[reducible] def gt1:GT:=.st gf1
@[reducible] def gf2:GT:=.pair (.int .i64) (.pair (.int .u8) (.pair (.sl (.int .u8)) (.int .u8)))
@[reducible] def gt2:GT:=.st gf2
@[reducible] def gf3:GT:=.pair .bool (.pair .bool (.pair (.int .i64) (.pair (.sl gt0) .raw)))
@[reducible] def gt3:GT:=.st gf3
@[reducible] def gf4:GT:=.pair .bool (.pair .bool (.pair (.int .i64) (.pair (.sl gt0) (.sl gt2))))
@[reducible] def gt4:GT:=.st gf4

end Go.Proofs.Ytmcpcdmonglkjaa
