/- Functions of the program, as plain data. -/
import Derived.Test.YtaekmgpcdgmlgaaXE40
set_option linter.unusedVariables false
set_option linter.unusedSimpArgs false
namespace Go.Proofs.Ytaekmgpcdgmlgaa
open Go.RowKit
set_option maxHeartbeats 4000000
set_option maxRecDepth 100000

def tys:List (TypeId × GT):=[(3,.int .i64),(4,.bool),(5,.int .u8),(23,.sl (.st (.pair (.int .u8) (.pair .bool (.pair .bool (.pair (.int .u16) (.pair (.int .u8) (.int .u8)))))))),(24,.int .u16),(26,.st (.pair (.int .u8) (.pair .bool (.pair .bool (.pair (.int .u16) (.pair (.int .u8) (.int .u8))))))),(27,.sl (.st (.pair (.int .i64) (.pair (.st (.pair (.int .u8) (.pair (.int .u8) (.pair .bool (.pair (.int .i64) (.pair (.int .i64) (.int .u8))))))) (.int .i64))))),(29,.st (.sl (.st (.pair (.int .i64) (.pair (.st (.pair (.int .u8) (.pair (.int .u8) (.pair .bool (.pair (.int .i64) (.pair (.int .i64) (.int .u8))))))) (.int .i64)))))),(32,.int .u8),(33,.int .u8),(35,.st (.pair (.int .u8) (.pair (.int .u8) (.pair .bool (.pair (.int .i64) (.pair (.int .i64) (.int .u8))))))),(37,.int .i64),(40,.arr 3 (.int .i64)),(42,.arr 288 (.int .i64)),(45,.st (.pair (.int .i64) (.pair (.st (.pair (.int .u8) (.pair (.int .u8) (.pair .bool (.pair (.int .i64) (.pair (.int .i64) (.int .u8))))))) (.int .i64)))),(61,.sl (.st (.pair .bool (.pair (.int .u8) (.st (.pair (.int .u8) (.pair .bool (.pair .bool (.pair (.int .u16) (.pair (.int .u8) (.int .u8))))))))))),(63,.st (.pair .bool (.pair (.int .u8) (.st (.pair (.int .u8) (.pair .bool (.pair .bool (.pair (.int .u16) (.pair (.int .u8) (.int .u8)))))))))),(78,.st (.pair (.int .u8) (.pair .bool (.pair (.int .u8) (.pair (.int .u16) (.int .u8)))))),(84,.st (.pair (.int .i64) (.pair (.int .i64) (.int .i64)))),(89,.arr 256 (.int .i64)),(90,.arr 32 (.int .i64)),(92,.st (.pair (.arr 256 (.int .i64)) (.arr 32 (.int .i64)))),(101,.sl (.int .u16)),(105,.sl (.int .i64)),(108,.sl (.sl (.st (.pair (.int .i64) (.pair (.st (.pair (.int .u8) (.pair (.int .u8) (.pair .bool (.pair (.int .i64) (.pair (.int .i64) (.int .u8))))))) (.int .i64))))))]
theorem tys_ok:tysOk Try.prog tys = true:=by kernel_rfl
theorem ty3:tie Try.prog (.int .i64) false 3 [] 0 = true:=gtOf.tie tys_ok (by kernel_rfl)
theorem ty4:tie Try.prog .bool false 4 [] 0 = true:=gtOf.tie tys_ok (by kernel_rfl)
theorem ty5:tie Try.prog (.int .u8) false 5 [] 0 = true:=gtOf.tie tys_ok (by kernel_rfl)
theorem ty23:tie Try.prog (.sl (.st (.pair (.int .u8) (.pair .bool (.pair .bool (.pair (.int .u16) (.pair (.int .u8) (.int .u8)))))))) false 23 [] 0 = true:=gtOf.tie tys_ok (by kernel_rfl)
theorem ty24:tie Try.prog (.int .u16) false 24 [] 0 = true:=gtOf.tie tys_ok (by kernel_rfl)
theorem ty26:tie Try.prog (.st (.pair (.int .u8) (.pair .bool (.pair .bool (.pair (.int .u16) (.pair (.int .u8) (.int .u8))))))) false 26 [] 0 = true:=gtOf.tie tys_ok (by kernel_rfl)
theorem ty27:tie Try.prog (.sl (.st (.pair (.int .i64) (.pair (.st (.pair (.int .u8) (.pair (.int .u8) (.pair .bool (.pair (.int .i64) (.pair (.int .i64) (.int .u8))))))) (.int .i64))))) false 27 [] 0 = true:=gtOf.tie tys_ok (by kernel_rfl)
theorem ty29:tie Try.prog (.st (.sl (.st (.pair (.int .i64) (.pair (.st (.pair (.int .u8) (.pair (.int .u8) (.pair .bool (.pair (.int .i64) (.pair (.int .i64) (.int .u8))))))) (.int .i64)))))) false 29 [] 0 = true:=gtOf.tie tys_ok (by kernel_rfl)
theorem ty32:tie Try.prog (.int .u8) false 32 [] 0 = true:=gtOf.tie tys_ok (by kernel_rfl)
theorem ty33:tie Try.prog (.int .u8) false 33 [] 0 = true:=gtOf.tie tys_ok (by kernel_rfl)
theorem ty35:tie Try.prog (.st (.pair (.int .u8) (.pair (.int .u8) (.pair .bool (.pair (.int .i64) (.pair (.int .i64) (.int .u8))))))) false 35 [] 0 = true:=gtOf.tie tys_ok (by kernel_rfl)
theorem ty37:tie Try.prog (.int .i64) false 37 [] 0 = true:=gtOf.tie tys_ok (by kernel_rfl)
theorem ty40:tie Try.prog (.arr 3 (.int .i64)) false 40 [] 0 = true:=gtOf.tie tys_ok (by kernel_rfl)
theorem ty42:tie Try.prog (.arr 288 (.int .i64)) false 42 [] 0 = true:=gtOf.tie tys_ok (by kernel_rfl)
theorem ty45:tie Try.prog (.st (.pair (.int .i64) (.pair (.st (.pair (.int .u8) (.pair (.int .u8) (.pair .bool (.pair (.int .i64) (.pair (.int .i64) (.int .u8))))))) (.int .i64)))) false 45 [] 0 = true:=gtOf.tie tys_ok (by kernel_rfl)
theorem ty78:tie Try.prog (.st (.pair (.int .u8) (.pair .bool (.pair (.int .u8) (.pair (.int .u16) (.int .u8)))))) false 78 [] 0 = true:=gtOf.tie tys_ok (by kernel_rfl)
theorem ty84:tie Try.prog (.st (.pair (.int .i64) (.pair (.int .i64) (.int .i64)))) false 84 [] 0 = true:=gtOf.tie tys_ok (by kernel_rfl)
theorem ty89:tie Try.prog (.arr 256 (.int .i64)) false 89 [] 0 = true:=gtOf.tie tys_ok (by kernel_rfl)
theorem ty90:tie Try.prog (.arr 32 (.int .i64)) false 90 [] 0 = true:=gtOf.tie tys_ok (by kernel_rfl)
theorem ty101:tie Try.prog (.sl (.int .u16)) false 101 [] 0 = true:=gtOf.tie tys_ok (by kernel_rfl)
theorem ty105:tie Try.prog (.sl (.int .i64)) false 105 [] 0 = true:=gtOf.tie tys_ok (by kernel_rfl)
theorem tyr105:tie Try.prog .raw false 105 [] 0 = true:=by kernel_rfl
theorem z29:(Try.prog.info? 29).bind (·.zero) = some (.agg #[.slice .none 0 0]):=by kernel_rfl
theorem z35:(Try.prog.info? 35).bind (·.zero) = some (.agg #[.int .u8 0,.int .u8 0,.bool false,.int .i64 0,.int .i64 0,.int .u8 0]):=by kernel_rfl
theorem z37:(Try.prog.info? 37).bind (·.zero) = some (.int .i64 0):=by kernel_rfl
theorem z40:(Try.prog.info? 40).bind (·.zero) = some (.agg #[.int .i64 0,.int .i64 0,.int .i64 0]):=by kernel_rfl
theorem z42:(Try.prog.info? 42).bind (·.zero) = some (.agg ((List.replicate 288 ([.int .i64 0]:List Value)).flatten).toArray):=by kernel_rfl
theorem z45:(Try.prog.info? 45).bind (·.zero) = some (.agg #[.int .i64 0,.int .u8 0,.int .u8 0,.bool false,.int .i64 0,.int .i64 0,.int .u8 0,.int .i64 0]):=by kernel_rfl
theorem z66:(Try.prog.info? 66).bind (·.zero) = some (.pointer .none):=by kernel_rfl
theorem z78:(Try.prog.info? 78).bind (·.zero) = some (.agg #[.int .u8 0,.bool false,.int .u8 0,.int .u16 0,.int .u8 0]):=by kernel_rfl
theorem z84:(Try.prog.info? 84).bind (·.zero) = some (.agg #[.int .i64 0,.int .i64 0,.int .i64 0]):=by kernel_rfl
theorem z92:(Try.prog.info? 92).bind (·.zero) = some (.agg (((List.replicate 256 ([.int .i64 0]:List Value)).flatten ++ (List.replicate 32 ([.int .i64 0]:List Value)).flatten)).toArray):=by kernel_rfl
theorem z105:(Try.prog.info? 105).bind (·.zero) = some (.slice .none 0 0):=by kernel_rfl
theorem mt79:MapTy Try.prog 79 3 4 .i64:=MapTy.of (by kernel_rfl)
theorem mt80:MapTy Try.prog 80 5 4 .u8:=MapTy.of (by kernel_rfl)
theorem ptr66:ptrB Try.prog 66 = true:=by kernel_rfl
theorem eqn45:eqM Try.prog (.pair (.int .i64) (.pair (.st (.pair (.int .u8) (.pair (.int .u8) (.pair .bool (.pair (.int .i64) (.pair (.int .i64) (.int .u8))))))) (.int .i64))) 45 = true:=by kernel_rfl
theorem un27:Try.prog.underlying 27 = some (.slice 45):=by kernel_rfl
theorem un105:Try.prog.underlying 105 = some (.slice 3):=by kernel_rfl
theorem by27:bytesB Try.prog 27 (.st (.pair (.int .i64) (.pair (.st (.pair (.int .u8) (.pair (.int .u8) (.pair .bool (.pair (.int .i64) (.pair (.int .i64) (.int .u8))))))) (.int .i64)))) = true:=by kernel_rfl
theorem by105:bytesB Try.prog 105 (.int .i64) = true:=by kernel_rfl
theorem cb46:callB Try.prog 46 = true:=by kernel_rfl
theorem cb53:callB Try.prog 53 = true:=by kernel_rfl
@[reducible] def gf0:GT:=.pair (.int .i64) (.pair (.int .i64) (.int .i64))
@[reducible] def gt0:GT:=.st gf0
@[reducible] def gf1:GT:=.pair (.arr 256 (.int .i64)) (.arr 32 (.int .i64))
@[reducible] def gt1:GT:=.st gf1
@[reducible] def gf2:GT:=.pair (.int .u8) (.pair .bool (.pair (.int .u8) (.pair (.int .u16) (.int .u8))))
@[reducible] def gt2:GT:=.st gf2
@[reducible] def gf3:GT:=.pair (.int .u8) (.pair .bool (.pair .bool (.pair (.int .u16) (.pair (.int .u8) (.int .u8)))))
@[reducible] def gt3:GT:=.st gf3
@[reducible] def gf4:GT:=.pair (.int .u8) (.pair (.int .u8) (.pair .bool (.pair (.int .i64) (.pair (.int .i64) (.int .u8)))))
@[reducible] def gt4:GT:=.st gf4
@[reducible] def gf6:GT:=.pair (.int .i64) (.pair gt4 (.int .i64))
@[reducible] def gt6:GT:=.st gf6
@[reducible] def gf7:GT:=.sl gt6
@[reducible] def gt7:GT:=.st gf7

end Go.Proofs.Ytaekmgpcdgmlgaa
