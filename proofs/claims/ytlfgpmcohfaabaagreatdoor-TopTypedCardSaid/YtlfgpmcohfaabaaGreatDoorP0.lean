/- Functions of the program, as plain data. -/
import Derived.Test.YtlfgpmcohfaabaaGreatDoorLB2
import Derived.Test.YtlfgpmcohfaabaaGreatDoorPQ
set_option linter.unusedVariables false
set_option linter.unusedSimpArgs false
namespace Go.Proofs.YtlfgpmcohfaabaaGreatDoor
open Go.RowKit
@[reducible] def ji (x:Int):Value:=.int .i64 x
theorem Wd.b_ {w w1:World} {L:List (Option Nat)} (W:Wd w w1 L) (p q:Nat) {b c:Nat} (h:p ≠ q) (h1:L[p]? = some (some b)) (h2:L[q]? = some (some c)):b ≠ c:=W.bne (c:=c) h h1 h2
abbrev tqA:Type:=Int × Int × Int × (Sl (Int)) × Int × Int × Int × Int × Int × Bool × Bool × Bool × Bool
set_option maxHeartbeats 4000000
set_option maxRecDepth 100000
def tys:List (TypeId × GT):=[(3,.int .i64),(4,.bool),(5,.int .u8),(9,.str),(23,.st (.pair .bool (.pair (.int .u8) (.pair .bool (.int .u8))))),(24,.sl (.int .u8)),(26,.sl (.st (.pair (.int .u8) (.pair (.int .u8) (.pair (.int .i64) (.pair (.sl (.int .u32)) (.pair (.int .i64) (.pair (.int .i64) (.pair (.int .i64) (.pair (.int .i64) (.pair (.int .i64) (.pair .bool (.pair .bool (.pair .bool .bool)))))))))))))),(29,.st (.pair (.sl (.st (.pair (.int .u8) (.pair (.int .u8) (.pair (.int .i64) (.pair (.sl (.int .u32)) (.pair (.int .i64) (.pair (.int .i64) (.pair (.int .i64) (.pair (.int .i64) (.pair (.int .i64) (.pair .bool (.pair .bool (.pair .bool .bool)))))))))))))) (.pair (.sl (.st (.pair (.int .u8) (.pair (.int .u32) (.int .i64))))) .bool))),(32,.int .i64),(35,.int .u8),(36,.sl (.int .u32)),(38,.st (.pair (.int .u8) (.pair (.int .u8) (.pair (.int .i64) (.pair (.sl (.int .u32)) (.pair (.int .i64) (.pair (.int .i64) (.pair (.int .i64) (.pair (.int .i64) (.pair (.int .i64) (.pair .bool (.pair .bool (.pair .bool .bool))))))))))))),(39,.sl (.st (.pair (.int .i64) (.pair (.int .i64) (.pair (.int .u32) (.int .i64)))))),(40,.arr 256 .bool),(41,.int .u32),(43,.st (.pair (.int .i64) (.pair (.int .i64) (.pair (.int .u32) (.int .i64))))),(46,.sl (.st (.pair (.int .u8) (.pair .bool .bool)))),(51,.st (.pair (.int .u8) (.pair .bool .bool))),(57,.st (.pair .str (.pair .str (.pair .str .bool)))),(59,.st (.pair (.int .i64) (.pair (.int .i64) (.pair (.int .i64) (.pair .bool (.st (.pair .str (.pair .str (.pair .str .bool))))))))),(63,.raw),(64,.arr 3 (.int .u8)),(65,.arr 256 .bool),(67,.st (.pair (.arr 256 .bool) (.pair (.st (.pair (.sl (.st (.pair (.int .u8) (.pair (.int .u8) (.pair (.int .i64) (.pair (.sl (.int .u32)) (.pair (.int .i64) (.pair (.int .i64) (.pair (.int .i64) (.pair (.int .i64) (.pair (.int .i64) (.pair .bool (.pair .bool (.pair .bool .bool)))))))))))))) (.pair (.sl (.st (.pair (.int .u8) (.pair (.int .u32) (.int .i64))))) .bool))) (.pair .bool (.pair .raw (.pair (.int .u8) (.pair (.int .u8) (.pair (.int .u8) (.pair (.int .i64) (.arr 3 (.int .u8))))))))))),(76,.arr 2 (.arr 256 .bool)),(80,.raw),(83,.st (.pair (.int .u8) (.pair (.int .u8) (.int .u8)))),(89,.st (.pair (.st (.pair (.int .i64) (.pair (.int .i64) (.pair (.int .i64) (.pair .bool (.st (.pair .str (.pair .str (.pair .str .bool))))))))) (.pair .raw (.pair (.sl (.st (.pair (.int .i64) (.sl (.int .u8))))) (.pair (.st (.pair (.int .u8) (.pair (.int .u8) (.int .u8)))) (.pair .bool (.pair .raw (.pair .raw (.pair .raw (.pair (.sl (.sl (.int .u8))) (.arr 2 .bool))))))))))),(95,.arr 5 .raw),(102,.int .u64),(109,.arr 3 .str),(110,.arr 3 (.int .i64)),(114,.int .u8),(115,.int .u16),(117,.st (.pair (.int .u8) (.pair (.int .u32) (.pair (.int .u16) (.int .i64))))),(141,.int .u64),(159,.st (.pair (.int .u8) (.pair .str (.pair (.int .i64) (.pair .bool (.pair .bool (.int .u8))))))),(174,.sl (.st (.pair (.int .u8) (.pair .str (.pair (.int .i64) (.pair .bool (.pair .bool (.int .u8)))))))),(175,.arr 7 (.st (.pair (.int .u8) (.pair .str (.pair (.int .i64) (.pair .bool (.pair .bool (.int .u8))))))))]
theorem tys_ok:tysOk Tryz.prog tys = true:=by kernel_rfl
instance:TyOk Tryz.prog tys:=⟨tys_ok⟩
theorem ty3:tiQ Tryz.prog (.int .i64) false 3 [] 0 = true:=gtOf.tie tys_ok (by kernel_rfl)
theorem ty4:tiQ Tryz.prog .bool false 4 [] 0 = true:=gtOf.tie tys_ok (by kernel_rfl)
theorem ty5:tiQ Tryz.prog (.int .u8) false 5 [] 0 = true:=gtOf.tie tys_ok (by kernel_rfl)
theorem ty9:tiQ Tryz.prog .str false 9 [] 0 = true:=gtOf.tie tys_ok (by kernel_rfl)
theorem ty23:tiQ Tryz.prog (.st (.pair .bool (.pair (.int .u8) (.pair .bool (.int .u8))))) false 23 [] 0 = true:=gtOf.tie tys_ok (by kernel_rfl)
theorem ty24:tiQ Tryz.prog (.sl (.int .u8)) false 24 [] 0 = true:=gtOf.tie tys_ok (by kernel_rfl)
theorem ty26:tiQ Tryz.prog (.sl (.st (.pair (.int .u8) (.pair (.int .u8) (.pair (.int .i64) (.pair (.sl (.int .u32)) (.pair (.int .i64) (.pair (.int .i64) (.pair (.int .i64) (.pair (.int .i64) (.pair (.int .i64) (.pair .bool (.pair .bool (.pair .bool .bool)))))))))))))) false 26 [] 0 = true:=gtOf.tie tys_ok (by kernel_rfl)
theorem ty29:tiQ Tryz.prog (.st (.pair (.sl (.st (.pair (.int .u8) (.pair (.int .u8) (.pair (.int .i64) (.pair (.sl (.int .u32)) (.pair (.int .i64) (.pair (.int .i64) (.pair (.int .i64) (.pair (.int .i64) (.pair (.int .i64) (.pair .bool (.pair .bool (.pair .bool .bool)))))))))))))) (.pair (.sl (.st (.pair (.int .u8) (.pair (.int .u32) (.int .i64))))) .bool))) false 29 [] 0 = true:=gtOf.tie tys_ok (by kernel_rfl)
theorem ty35:tiQ Tryz.prog (.int .u8) false 35 [] 0 = true:=gtOf.tie tys_ok (by kernel_rfl)
theorem ty36:tiQ Tryz.prog (.sl (.int .u32)) false 36 [] 0 = true:=gtOf.tie tys_ok (by kernel_rfl)
theorem ty38:tiQ Tryz.prog (.st (.pair (.int .u8) (.pair (.int .u8) (.pair (.int .i64) (.pair (.sl (.int .u32)) (.pair (.int .i64) (.pair (.int .i64) (.pair (.int .i64) (.pair (.int .i64) (.pair (.int .i64) (.pair .bool (.pair .bool (.pair .bool .bool))))))))))))) false 38 [] 0 = true:=gtOf.tie tys_ok (by kernel_rfl)
theorem ty39:tiQ Tryz.prog (.sl (.st (.pair (.int .i64) (.pair (.int .i64) (.pair (.int .u32) (.int .i64)))))) false 39 [] 0 = true:=gtOf.tie tys_ok (by kernel_rfl)
theorem ty40:tiQ Tryz.prog (.arr 256 .bool) false 40 [] 0 = true:=gtOf.tie tys_ok (by kernel_rfl)
theorem ty41:tiQ Tryz.prog (.int .u32) false 41 [] 0 = true:=gtOf.tie tys_ok (by kernel_rfl)
theorem ty43:tiQ Tryz.prog (.st (.pair (.int .i64) (.pair (.int .i64) (.pair (.int .u32) (.int .i64))))) false 43 [] 0 = true:=gtOf.tie tys_ok (by kernel_rfl)
theorem ty46:tiQ Tryz.prog (.sl (.st (.pair (.int .u8) (.pair .bool .bool)))) false 46 [] 0 = true:=gtOf.tie tys_ok (by kernel_rfl)
theorem ty51:tiQ Tryz.prog (.st (.pair (.int .u8) (.pair .bool .bool))) false 51 [] 0 = true:=gtOf.tie tys_ok (by kernel_rfl)
theorem ty57:tiQ Tryz.prog (.st (.pair .str (.pair .str (.pair .str .bool)))) false 57 [] 0 = true:=gtOf.tie tys_ok (by kernel_rfl)
theorem ty59:tiQ Tryz.prog (.st (.pair (.int .i64) (.pair (.int .i64) (.pair (.int .i64) (.pair .bool (.st (.pair .str (.pair .str (.pair .str .bool))))))))) false 59 [] 0 = true:=gtOf.tie tys_ok (by kernel_rfl)
theorem ty64:tiQ Tryz.prog (.arr 3 (.int .u8)) false 64 [] 0 = true:=gtOf.tie tys_ok (by kernel_rfl)
theorem ty65:tiQ Tryz.prog (.arr 256 .bool) false 65 [] 0 = true:=gtOf.tie tys_ok (by kernel_rfl)
theorem ty76:tiQ Tryz.prog (.arr 2 (.arr 256 .bool)) false 76 [] 0 = true:=gtOf.tie tys_ok (by kernel_rfl)
theorem ty80:tiQ Tryz.prog .raw false 80 [] 0 = true:=gtOf.tie tys_ok (by kernel_rfl)
theorem ty83:tiQ Tryz.prog (.st (.pair (.int .u8) (.pair (.int .u8) (.int .u8)))) false 83 [] 0 = true:=gtOf.tie tys_ok (by kernel_rfl)
theorem ty89:tiQ Tryz.prog (.st (.pair (.st (.pair (.int .i64) (.pair (.int .i64) (.pair (.int .i64) (.pair .bool (.st (.pair .str (.pair .str (.pair .str .bool))))))))) (.pair .raw (.pair (.sl (.st (.pair (.int .i64) (.sl (.int .u8))))) (.pair (.st (.pair (.int .u8) (.pair (.int .u8) (.int .u8)))) (.pair .bool (.pair .raw (.pair .raw (.pair .raw (.pair (.sl (.sl (.int .u8))) (.arr 2 .bool))))))))))) false 89 [] 0 = true:=gtOf.tie tys_ok (by kernel_rfl)
theorem ty95:tiQ Tryz.prog (.arr 5 .raw) false 95 [] 0 = true:=gtOf.tie tys_ok (by kernel_rfl)
theorem ty109:tiQ Tryz.prog (.arr 3 .str) false 109 [] 0 = true:=gtOf.tie tys_ok (by kernel_rfl)
theorem ty110:tiQ Tryz.prog (.arr 3 (.int .i64)) false 110 [] 0 = true:=gtOf.tie tys_ok (by kernel_rfl)
theorem ty114:tiQ Tryz.prog (.int .u8) false 114 [] 0 = true:=gtOf.tie tys_ok (by kernel_rfl)
theorem ty115:tiQ Tryz.prog (.int .u16) false 115 [] 0 = true:=gtOf.tie tys_ok (by kernel_rfl)
theorem ty117:tiQ Tryz.prog (.st (.pair (.int .u8) (.pair (.int .u32) (.pair (.int .u16) (.int .i64))))) false 117 [] 0 = true:=gtOf.tie tys_ok (by kernel_rfl)
theorem ty141:tiQ Tryz.prog (.int .u64) false 141 [] 0 = true:=gtOf.tie tys_ok (by kernel_rfl)
theorem ty159:tiQ Tryz.prog (.st (.pair (.int .u8) (.pair .str (.pair (.int .i64) (.pair .bool (.pair .bool (.int .u8))))))) false 159 [] 0 = true:=gtOf.tie tys_ok (by kernel_rfl)
theorem ty174:tiQ Tryz.prog (.sl (.st (.pair (.int .u8) (.pair .str (.pair (.int .i64) (.pair .bool (.pair .bool (.int .u8)))))))) false 174 [] 0 = true:=gtOf.tie tys_ok (by kernel_rfl)
theorem ty175:tiQ Tryz.prog (.arr 7 (.st (.pair (.int .u8) (.pair .str (.pair (.int .i64) (.pair .bool (.pair .bool (.int .u8)))))))) false 175 [] 0 = true:=gtOf.tie tys_ok (by kernel_rfl)
theorem tyw29_0:tiQ Tryz.prog (.st (.pair .raw (.pair (.sl (.st (.pair (.int .u8) (.pair (.int .u32) (.int .i64))))) .bool))) false 29 [] 0 = true:=by kernel_rfl
theorem tyw38_3:tiQ Tryz.prog (.st (.pair (.int .u8) (.pair (.int .u8) (.pair (.int .i64) (.pair .raw (.pair (.int .i64) (.pair (.int .i64) (.pair (.int .i64) (.pair (.int .i64) (.pair (.int .i64) (.pair .bool (.pair .bool (.pair .bool .bool))))))))))))) false 38 [] 0 = true:=by kernel_rfl
theorem tyw67_1x0_3:tiQ Tryz.prog (.st (.pair (.arr 256 .bool) (.pair (.st (.pair .raw (.pair (.sl (.st (.pair (.int .u8) (.pair (.int .u32) (.int .i64))))) .bool))) (.pair .bool (.pair .raw (.pair (.int .u8) (.pair (.int .u8) (.pair (.int .u8) (.pair (.int .i64) (.arr 3 (.int .u8))))))))))) false 67 [] 0 = true:=by kernel_rfl
theorem tyr24:tiQ Tryz.prog .raw false 24 [] 0 = true:=by kernel_rfl
theorem tyr26:tiQ Tryz.prog .raw false 26 [] 0 = true:=by kernel_rfl
theorem tyr36:tiQ Tryz.prog .raw false 36 [] 0 = true:=by kernel_rfl
theorem tyr46:tiQ Tryz.prog .raw false 46 [] 0 = true:=by kernel_rfl
theorem tyr63:tiQ Tryz.prog .raw false 63 [] 0 = true:=by kernel_rfl
theorem z3:(Tryz.prog.info? 3).bind (·.zero) = some (.int .i64 0):=by kernel_rfl
theorem z5:(Tryz.prog.info? 5).bind (·.zero) = some (.int .u8 0):=by kernel_rfl
theorem z29:(Tryz.prog.info? 29).bind (·.zero) = some (.agg #[.slice .none 0 0,.slice .none 0 0,.bool false]):=by kernel_rfl
theorem z38:(Tryz.prog.info? 38).bind (·.zero) = some (.agg #[.int .u8 0,.int .u8 0,.int .i64 0,.slice .none 0 0,.int .i64 0,.int .i64 0,.int .i64 0,.int .i64 0,.int .i64 0,.bool false,.bool false,.bool false,.bool false]):=by kernel_rfl
theorem z40:(Tryz.prog.info? 40).bind (·.zero) = some (.agg ((List.replicate 256 ([.bool false]:List Value)).flatten).toArray):=by kernel_rfl
theorem z43:(Tryz.prog.info? 43).bind (·.zero) = some (.agg #[.int .i64 0,.int .i64 0,.int .u32 0,.int .i64 0]):=by kernel_rfl
theorem z46:(Tryz.prog.info? 46).bind (·.zero) = some (.slice .none 0 0):=by kernel_rfl
theorem z51:(Tryz.prog.info? 51).bind (·.zero) = some (.agg #[.int .u8 0,.bool false,.bool false]):=by kernel_rfl
theorem z59:(Tryz.prog.info? 59).bind (·.zero) = some (.agg #[.int .i64 0,.int .i64 0,.int .i64 0,.bool false,.string ⟨#[]⟩,.string ⟨#[]⟩,.string ⟨#[]⟩,.bool false]):=by kernel_rfl
theorem z64:(Tryz.prog.info? 64).bind (·.zero) = some (.agg #[.int .u8 0,.int .u8 0,.int .u8 0]):=by kernel_rfl
theorem z65:(Tryz.prog.info? 65).bind (·.zero) = some (.agg ((List.replicate 256 ([.bool false]:List Value)).flatten).toArray):=by kernel_rfl
theorem z67:(Tryz.prog.info? 67).bind (·.zero) = some (.agg (((List.replicate 256 ([.bool false]:List Value)).flatten ++ ((([.slice .none 0 0]:List Value) ++ (([.slice .none 0 0]:List Value) ++ ([.bool false]:List Value))) ++ (([.bool false]:List Value) ++ (([.map .none]:List Value) ++ (([.int .u8 0]:List Value) ++ (([.int .u8 0]:List Value) ++ (([.int .u8 0]:List Value) ++ (([.int .i64 0]:List Value) ++ (List.replicate 3 ([.int .u8 0]:List Value)).flatten))))))))).toArray):=by kernel_rfl
theorem z75:(Tryz.prog.info? 75).bind (·.zero) = some (.pointer .none):=by kernel_rfl
theorem z76:(Tryz.prog.info? 76).bind (·.zero) = some (.agg ((List.replicate 2 (List.replicate 256 ([.bool false]:List Value)).flatten).flatten).toArray):=by kernel_rfl
theorem z83:(Tryz.prog.info? 83).bind (·.zero) = some (.agg #[.int .u8 0,.int .u8 0,.int .u8 0]):=by kernel_rfl
theorem z89:(Tryz.prog.info? 89).bind (·.zero) = some (.agg #[.int .i64 0,.int .i64 0,.int .i64 0,.bool false,.string ⟨#[]⟩,.string ⟨#[]⟩,.string ⟨#[]⟩,.bool false,.map .none,.slice .none 0 0,.int .u8 0,.int .u8 0,.int .u8 0,.bool false,.pointer .none,.pointer .none,.pointer .none,.slice .none 0 0,.bool false,.bool false]):=by kernel_rfl
theorem z95:(Tryz.prog.info? 95).bind (·.zero) = some (.agg #[.nilFunc,.nilFunc,.nilFunc,.nilFunc,.nilFunc]):=by kernel_rfl
theorem z109:(Tryz.prog.info? 109).bind (·.zero) = some (.agg #[.string ⟨#[]⟩,.string ⟨#[]⟩,.string ⟨#[]⟩]):=by kernel_rfl
theorem z110:(Tryz.prog.info? 110).bind (·.zero) = some (.agg #[.int .i64 0,.int .i64 0,.int .i64 0]):=by kernel_rfl
theorem z117:(Tryz.prog.info? 117).bind (·.zero) = some (.agg #[.int .u8 0,.int .u32 0,.int .u16 0,.int .i64 0]):=by kernel_rfl
theorem z159:(Tryz.prog.info? 159).bind (·.zero) = some (.agg #[.int .u8 0,.string ⟨#[]⟩,.int .i64 0,.bool false,.bool false,.int .u8 0]):=by kernel_rfl
theorem mt63:MapTy Tryz.prog 63 5 75 .u8:=MapTy.of (by kernel_rfl)
theorem ptr31:f_k Tryz.prog 31 = true:=by kernel_rfl
theorem ptr53:f_k Tryz.prog 53 = true:=by kernel_rfl
theorem ptr75:f_k Tryz.prog 75 = true:=by kernel_rfl
theorem ptr78:f_k Tryz.prog 78 = true:=by kernel_rfl
theorem mp80:mapB Tryz.prog 80 = true:=by kernel_rfl
theorem u8b24:u8B Tryz.prog 24 9 = true:=by kernel_rfl
@[reducible] def gl0:List (Int × (List Int) × Int × Bool × Bool × Int):=[(0,[82,69,65,68,89],6,false,false,0),(3,[65,83,75],6,true,false,1),(18,[73,68,69,78,84,73,70,89],6,true,false,1),(37,[83,73,90,69],10,false,false,1),(40,[82,69,65,68],10,false,true,1),(42,[87,82,73,84,69],10,false,true,2),(53,[83,89,78,67,72,82,79,78,73,90,69],10,false,true,0)]
theorem eq51:eqB Tryz.prog 51 = true:=by kernel_rfl
theorem eq83:eqB Tryz.prog 83 = true:=by kernel_rfl
theorem un24:Tryz.prog.underlying 24 = some (.slice 5):=by kernel_rfl
theorem un26:Tryz.prog.underlying 26 = some (.slice 38):=by kernel_rfl
theorem un36:Tryz.prog.underlying 36 = some (.slice 41):=by kernel_rfl
theorem un39:Tryz.prog.underlying 39 = some (.slice 43):=by kernel_rfl
theorem un46:Tryz.prog.underlying 46 = some (.slice 51):=by kernel_rfl
theorem by24:bytesB Tryz.prog 24 (.int .u8) = true:=by kernel_rfl
theorem by26:bytesB Tryz.prog 26 (.st (.pair (.int .u8) (.pair (.int .u8) (.pair (.int .i64) (.pair (.sl (.int .u32)) (.pair (.int .i64) (.pair (.int .i64) (.pair (.int .i64) (.pair (.int .i64) (.pair (.int .i64) (.pair .bool (.pair .bool (.pair .bool .bool))))))))))))) = true:=by kernel_rfl
theorem by36:bytesB Tryz.prog 36 (.int .u32) = true:=by kernel_rfl
theorem by39:bytesB Tryz.prog 39 (.st (.pair (.int .i64) (.pair (.int .i64) (.pair (.int .u32) (.int .i64))))) = true:=by kernel_rfl
theorem by46:bytesB Tryz.prog 46 (.st (.pair (.int .u8) (.pair .bool .bool))) = true:=by kernel_rfl
theorem cb10:a_C Tryz.prog 10 = true:=by kernel_rfl
theorem cb11:a_C Tryz.prog 11 = true:=by kernel_rfl
theorem cb22:a_C Tryz.prog 22 = true:=by kernel_rfl
theorem cb23:a_C Tryz.prog 23 = true:=by kernel_rfl
theorem cb38:a_C Tryz.prog 38 = true:=by kernel_rfl
theorem cb39:a_C Tryz.prog 39 = true:=by kernel_rfl
theorem cb41:a_C Tryz.prog 41 = true:=by kernel_rfl
theorem cb42:a_C Tryz.prog 42 = true:=by kernel_rfl
theorem cb45:a_C Tryz.prog 45 = true:=by kernel_rfl
theorem cb53:a_C Tryz.prog 53 = true:=by kernel_rfl
theorem cb71:a_C Tryz.prog 71 = true:=by kernel_rfl
theorem cb92:a_C Tryz.prog 92 = true:=by kernel_rfl
@[reducible] def gf0:GT:=.pair (.int .i64) (.sl (.int .u8))
@[reducible] def gt0:GT:=.st gf0
@[reducible] def gf1:GT:=.pair (.int .u8) (.pair .bool .bool)
@[reducible] def gt1:GT:=.st gf1
@[reducible] def gf2:GT:=.pair .str (.pair .str (.pair .str .bool))
@[reducible] def gt2:GT:=.st gf2
@[reducible] def gf3:GT:=.pair (.int .u8) (.pair (.int .u8) (.int .u8))
@[reducible] def gt3:GT:=.st gf3
@[reducible] def gf4:GT:=.pair (.int .u8) (.pair (.int .u32) (.int .i64))
@[reducible] def gt4:GT:=.st gf4
@[reducible] def gf5:GT:=.pair .bool (.pair (.int .u8) (.pair .bool (.int .u8)))
@[reducible] def gt5:GT:=.st gf5
@[reducible] def gf6:GT:=.pair (.int .u8) (.pair (.int .u32) (.pair (.int .u16) (.int .i64)))
@[reducible] def gt6:GT:=.st gf6
@[reducible] def gf7:GT:=.pair (.int .i64) (.pair (.int .i64) (.pair (.int .u32) (.int .i64)))
@[reducible] def gt7:GT:=.st gf7
@[reducible] def gf8:GT:=.pair .raw (.pair (.sl gt4) .bool)
@[reducible] def gt8:GT:=.st gf8
@[reducible] def gf9:GT:=.pair (.int .u8) (.pair .str (.pair (.int .i64) (.pair .bool (.pair .bool (.int .u8)))))
@[reducible] def gt9:GT:=.st gf9
@[reducible] def gf10:GT:=.pair (.int .i64) (.pair (.int .i64) (.pair (.int .i64) (.pair .bool gt2)))
@[reducible] def gt10:GT:=.st gf10
@[reducible] def gf11:GT:=.pair (.int .u8) (.pair (.int .u8) (.pair (.int .i64) (.pair .raw (.pair (.int .i64) (.pair (.int .i64) (.pair (.int .i64) (.pair (.int .i64) (.pair (.int .i64) (.pair .bool (.pair .bool (.pair .bool .bool)))))))))))
@[reducible] def gt11:GT:=.st gf11
@[reducible] def gf12:GT:=.pair (.int .u8) (.pair (.int .u8) (.pair (.int .i64) (.pair (.sl (.int .u32)) (.pair (.int .i64) (.pair (.int .i64) (.pair (.int .i64) (.pair (.int .i64) (.pair (.int .i64) (.pair .bool (.pair .bool (.pair .bool .bool)))))))))))
@[reducible] def gt12:GT:=.st gf12
@[reducible] def gf13:GT:=.pair (.arr 256 .bool) (.pair gt8 (.pair .bool (.pair .raw (.pair (.int .u8) (.pair (.int .u8) (.pair (.int .u8) (.pair (.int .i64) (.arr 3 (.int .u8)))))))))
@[reducible] def gt13:GT:=.st gf13
@[reducible] def gf14:GT:=.pair (.sl gt12) (.pair (.sl gt4) .bool)
@[reducible] def gt14:GT:=.st gf14
@[reducible] def gf15:GT:=.pair gt10 (.pair .raw (.pair (.sl gt0) (.pair gt3 (.pair .bool (.pair .raw (.pair .raw (.pair .raw (.pair (.sl (.sl (.int .u8))) (.arr 2 .bool)))))))))
@[reducible] def gt15:GT:=.st gf15
@[reducible] def gf16:GT:=.pair (.arr 256 .bool) (.pair gt14 (.pair .bool (.pair .raw (.pair (.int .u8) (.pair (.int .u8) (.pair (.int .u8) (.pair (.int .i64) (.arr 3 (.int .u8)))))))))
@[reducible] def gt16:GT:=.st gf16
theorem wr {P:Program} {Q:Exit → Act → World → Prop} {a:Act} {w:World} {id:Nat} {l:List Oper} (h:wpList P l.toArray Q l a w):Code.wp P (Code.region id l.toArray false) Q a w:=wp_region_lit h
theorem wn {P:Program} {ops:Array Oper} {Q:Exit → Act → World → Prop} {a:Act} {w:World} (h:Q Exit.normal a w):wpList P ops Q [] a w:=wpList_nil h
theorem ws {P:Program} {Q:Exit → Act → World → Prop} {a:Act} {w:World} {x y:Code} (h:Code.wp P x (Exit.then (Code.wp P y Q) Q) a w):Code.wp P (x.seq y) Q a w:=wp_seq h
theorem oi {α:Type} {a b:α} (h:some a = some b):a = b:=Option.some.inj h
theorem bf {b:Bool} (h:b = false):¬ b = true:=Bool.eq_false_iff.1 h
theorem sub_m {l:List (Nat × Value)}:∀ {l':List (Nat × Value)},(l'.map fun p=>lk l p.1) = (l'.map fun p=>some p.2) → sub l' l
  |[],_=>trivial
  |(i,v)::l',h=>by
    simp only [List.map_cons,List.cons.injEq] at h
    exact ⟨h.1,sub_m h.2⟩
theorem StD.su {ds:List Deferred} {N:Nat} {a:Act} {l l':List (Nat × Value)} (S:StD ds N a l) (h:(l'.map fun p=>lk l p.1) = (l'.map fun p=>some p.2):=by kernel_rfl):StD ds N a l':=S.sub (sub_m h)
section
variable {r:Option Nat} {ds:List Deferred} {N:Nat} {a:Act} {l:List (Nat × Value)} {w:World} {ops:Array Oper} {Q:Exit → Act → World → Prop} {K:Act → World → Prop} {l0:List Oper} {l':List (Nat × Value)}
end
end Go.Proofs.YtlfgpmcohfaabaaGreatDoor
