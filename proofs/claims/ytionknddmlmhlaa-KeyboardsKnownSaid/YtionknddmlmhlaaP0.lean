/- Functions of the program, as plain data. -/
import Derived.Test.YtionknddmlmhlaaLB2
set_option linter.unusedVariables false
set_option linter.unusedSimpArgs false
namespace Go.Proofs.Ytionknddmlmhlaa
open Go.RowKit
@[reducible] def ji (x:Int):Value:=.int .i64 x
theorem Wd.b_ {w w1:World} {L:List (Option Nat)} (W:Wd w w1 L) (p q:Nat) {b c:Nat} (h:p ≠ q) (h1:L[p]? = some (some b)) (h2:L[q]? = some (some c)):b ≠ c:=W.bne (c:=c) h h1 h2
abbrev tqA:Type:=Int × Int × Int × (Sl (Int)) × Int × Int × Int × Int × Int × Bool × Bool × Bool × Bool
abbrev tqB:Type:=(List (Bool)) × ((Sl tqA) × (Sl (Int × Int × Int)) × Bool) × Bool × Int × Int × Int × Int × (List (Int))
abbrev tqC:Type:=Int × (List (List (Bool)))
abbrev tqD:Type:=Sl (Int × Int × Int)
set_option maxHeartbeats 4000000
set_option maxRecDepth 100000
def tys:List (TypeId × GT):=[(3,.int .i64),(4,.bool),(5,.int .u8),(9,.str),(23,.st (.pair .bool (.pair (.int .u8) (.pair .bool (.int .u8))))),(24,.sl (.int .u8)),(25,.sl (.st (.pair (.int .u8) (.pair .bool .bool)))),(27,.sl (.st (.pair (.int .u8) (.pair (.int .u8) (.pair (.int .i64) (.pair (.sl (.int .u32)) (.pair (.int .i64) (.pair (.int .i64) (.pair (.int .i64) (.pair (.int .i64) (.pair (.int .i64) (.pair .bool (.pair .bool (.pair .bool .bool)))))))))))))),(30,.st (.pair (.sl (.st (.pair (.int .u8) (.pair (.int .u8) (.pair (.int .i64) (.pair (.sl (.int .u32)) (.pair (.int .i64) (.pair (.int .i64) (.pair (.int .i64) (.pair (.int .i64) (.pair (.int .i64) (.pair .bool (.pair .bool (.pair .bool .bool)))))))))))))) (.pair (.sl (.st (.pair (.int .u8) (.pair (.int .u32) (.int .i64))))) .bool))),(33,.int .i64),(43,.st (.pair (.int .u8) (.pair .bool .bool))),(47,.sl (.st (.pair (.int .u8) (.sl (.int .u8))))),(48,.arr 256 .bool),(49,.arr 2 (.arr 256 .bool)),(50,.arr 3 (.arr 2 (.arr 256 .bool))),(52,.st (.pair (.arr 3 (.arr 2 (.arr 256 .bool))) (.pair (.arr 256 .bool) (.pair (.int .u8) (.pair (.int .i64) (.int .i64)))))),(54,.st (.pair (.int .u8) (.sl (.int .u8)))),(58,.sl (.st (.pair (.int .i64) (.pair (.int .i64) (.pair (.int .u32) (.int .i64)))))),(61,.int .u8),(68,.int .u32),(75,.sl (.int .u32)),(77,.st (.pair (.int .u8) (.pair (.int .u8) (.pair (.int .i64) (.pair (.sl (.int .u32)) (.pair (.int .i64) (.pair (.int .i64) (.pair (.int .i64) (.pair (.int .i64) (.pair (.int .i64) (.pair .bool (.pair .bool (.pair .bool .bool))))))))))))),(78,.arr 256 .bool),(79,.raw),(80,.arr 3 (.int .u8)),(82,.st (.pair (.arr 256 .bool) (.pair (.st (.pair (.sl (.st (.pair (.int .u8) (.pair (.int .u8) (.pair (.int .i64) (.pair (.sl (.int .u32)) (.pair (.int .i64) (.pair (.int .i64) (.pair (.int .i64) (.pair (.int .i64) (.pair (.int .i64) (.pair .bool (.pair .bool (.pair .bool .bool)))))))))))))) (.pair (.sl (.st (.pair (.int .u8) (.pair (.int .u32) (.int .i64))))) .bool))) (.pair .bool (.pair .raw (.pair (.int .u8) (.pair (.int .u8) (.pair (.int .u8) (.pair (.int .i64) (.arr 3 (.int .u8))))))))))),(88,.arr 2 (.arr 256 .bool)),(90,.st (.pair (.int .i64) (.pair (.int .i64) (.pair (.int .u32) (.int .i64))))),(115,.arr 5 .raw),(127,.arr 3 (.int .i64))]
theorem tys_ok:tysOk Try.prog tys = true:=by kernel_rfl
instance:TyOk Try.prog tys:=⟨tys_ok⟩
theorem ty3:tie Try.prog (.int .i64) false 3 [] 0 = true:=gtOf.tie tys_ok (by kernel_rfl)
theorem ty4:tie Try.prog .bool false 4 [] 0 = true:=gtOf.tie tys_ok (by kernel_rfl)
theorem ty5:tie Try.prog (.int .u8) false 5 [] 0 = true:=gtOf.tie tys_ok (by kernel_rfl)
theorem ty9:tie Try.prog .str false 9 [] 0 = true:=gtOf.tie tys_ok (by kernel_rfl)
theorem ty23:tie Try.prog (.st (.pair .bool (.pair (.int .u8) (.pair .bool (.int .u8))))) false 23 [] 0 = true:=gtOf.tie tys_ok (by kernel_rfl)
theorem ty24:tie Try.prog (.sl (.int .u8)) false 24 [] 0 = true:=gtOf.tie tys_ok (by kernel_rfl)
theorem ty25:tie Try.prog (.sl (.st (.pair (.int .u8) (.pair .bool .bool)))) false 25 [] 0 = true:=gtOf.tie tys_ok (by kernel_rfl)
theorem ty27:tie Try.prog (.sl (.st (.pair (.int .u8) (.pair (.int .u8) (.pair (.int .i64) (.pair (.sl (.int .u32)) (.pair (.int .i64) (.pair (.int .i64) (.pair (.int .i64) (.pair (.int .i64) (.pair (.int .i64) (.pair .bool (.pair .bool (.pair .bool .bool)))))))))))))) false 27 [] 0 = true:=gtOf.tie tys_ok (by kernel_rfl)
theorem ty30:tie Try.prog (.st (.pair (.sl (.st (.pair (.int .u8) (.pair (.int .u8) (.pair (.int .i64) (.pair (.sl (.int .u32)) (.pair (.int .i64) (.pair (.int .i64) (.pair (.int .i64) (.pair (.int .i64) (.pair (.int .i64) (.pair .bool (.pair .bool (.pair .bool .bool)))))))))))))) (.pair (.sl (.st (.pair (.int .u8) (.pair (.int .u32) (.int .i64))))) .bool))) false 30 [] 0 = true:=gtOf.tie tys_ok (by kernel_rfl)
theorem ty43:tie Try.prog (.st (.pair (.int .u8) (.pair .bool .bool))) false 43 [] 0 = true:=gtOf.tie tys_ok (by kernel_rfl)
theorem ty47:tie Try.prog (.sl (.st (.pair (.int .u8) (.sl (.int .u8))))) false 47 [] 0 = true:=gtOf.tie tys_ok (by kernel_rfl)
theorem ty48:tie Try.prog (.arr 256 .bool) false 48 [] 0 = true:=gtOf.tie tys_ok (by kernel_rfl)
theorem ty49:tie Try.prog (.arr 2 (.arr 256 .bool)) false 49 [] 0 = true:=gtOf.tie tys_ok (by kernel_rfl)
theorem ty50:tie Try.prog (.arr 3 (.arr 2 (.arr 256 .bool))) false 50 [] 0 = true:=gtOf.tie tys_ok (by kernel_rfl)
theorem ty54:tie Try.prog (.st (.pair (.int .u8) (.sl (.int .u8)))) false 54 [] 0 = true:=gtOf.tie tys_ok (by kernel_rfl)
theorem ty58:tie Try.prog (.sl (.st (.pair (.int .i64) (.pair (.int .i64) (.pair (.int .u32) (.int .i64)))))) false 58 [] 0 = true:=gtOf.tie tys_ok (by kernel_rfl)
theorem ty61:tie Try.prog (.int .u8) false 61 [] 0 = true:=gtOf.tie tys_ok (by kernel_rfl)
theorem ty68:tie Try.prog (.int .u32) false 68 [] 0 = true:=gtOf.tie tys_ok (by kernel_rfl)
theorem ty75:tie Try.prog (.sl (.int .u32)) false 75 [] 0 = true:=gtOf.tie tys_ok (by kernel_rfl)
theorem ty77:tie Try.prog (.st (.pair (.int .u8) (.pair (.int .u8) (.pair (.int .i64) (.pair (.sl (.int .u32)) (.pair (.int .i64) (.pair (.int .i64) (.pair (.int .i64) (.pair (.int .i64) (.pair (.int .i64) (.pair .bool (.pair .bool (.pair .bool .bool))))))))))))) false 77 [] 0 = true:=gtOf.tie tys_ok (by kernel_rfl)
theorem ty78:tie Try.prog (.arr 256 .bool) false 78 [] 0 = true:=gtOf.tie tys_ok (by kernel_rfl)
theorem ty80:tie Try.prog (.arr 3 (.int .u8)) false 80 [] 0 = true:=gtOf.tie tys_ok (by kernel_rfl)
theorem ty88:tie Try.prog (.arr 2 (.arr 256 .bool)) false 88 [] 0 = true:=gtOf.tie tys_ok (by kernel_rfl)
theorem ty90:tie Try.prog (.st (.pair (.int .i64) (.pair (.int .i64) (.pair (.int .u32) (.int .i64))))) false 90 [] 0 = true:=gtOf.tie tys_ok (by kernel_rfl)
theorem ty115:tie Try.prog (.arr 5 .raw) false 115 [] 0 = true:=gtOf.tie tys_ok (by kernel_rfl)
theorem tyw30_0:tie Try.prog (.st (.pair .raw (.pair (.sl (.st (.pair (.int .u8) (.pair (.int .u32) (.int .i64))))) .bool))) false 30 [] 0 = true:=by kernel_rfl
theorem tyw77_3:tie Try.prog (.st (.pair (.int .u8) (.pair (.int .u8) (.pair (.int .i64) (.pair .raw (.pair (.int .i64) (.pair (.int .i64) (.pair (.int .i64) (.pair (.int .i64) (.pair (.int .i64) (.pair .bool (.pair .bool (.pair .bool .bool))))))))))))) false 77 [] 0 = true:=by kernel_rfl
theorem tyw82_1x0_3:tie Try.prog (.st (.pair (.arr 256 .bool) (.pair (.st (.pair .raw (.pair (.sl (.st (.pair (.int .u8) (.pair (.int .u32) (.int .i64))))) .bool))) (.pair .bool (.pair .raw (.pair (.int .u8) (.pair (.int .u8) (.pair (.int .u8) (.pair (.int .i64) (.arr 3 (.int .u8))))))))))) false 82 [] 0 = true:=by kernel_rfl
theorem tyr24:tie Try.prog .raw false 24 [] 0 = true:=by kernel_rfl
theorem tyr25:tie Try.prog .raw false 25 [] 0 = true:=by kernel_rfl
theorem tyr27:tie Try.prog .raw false 27 [] 0 = true:=by kernel_rfl
theorem tyr75:tie Try.prog .raw false 75 [] 0 = true:=by kernel_rfl
theorem tyr79:tie Try.prog .raw false 79 [] 0 = true:=by kernel_rfl
theorem z3:(Try.prog.info? 3).bind (·.zero) = some (.int .i64 0):=by kernel_rfl
theorem z5:(Try.prog.info? 5).bind (·.zero) = some (.int .u8 0):=by kernel_rfl
theorem z23:(Try.prog.info? 23).bind (·.zero) = some (.agg #[.bool false,.int .u8 0,.bool false,.int .u8 0]):=by kernel_rfl
theorem z25:(Try.prog.info? 25).bind (·.zero) = some (.slice .none 0 0):=by kernel_rfl
theorem z30:(Try.prog.info? 30).bind (·.zero) = some (.agg #[.slice .none 0 0,.slice .none 0 0,.bool false]):=by kernel_rfl
theorem z43:(Try.prog.info? 43).bind (·.zero) = some (.agg #[.int .u8 0,.bool false,.bool false]):=by kernel_rfl
theorem z48:(Try.prog.info? 48).bind (·.zero) = some (.agg ((List.replicate 256 ([.bool false]:List Value)).flatten).toArray):=by kernel_rfl
theorem z49:(Try.prog.info? 49).bind (·.zero) = some (.agg ((List.replicate 2 (List.replicate 256 ([.bool false]:List Value)).flatten).flatten).toArray):=by kernel_rfl
theorem z50:(Try.prog.info? 50).bind (·.zero) = some (.agg ((List.replicate 3 (List.replicate 2 (List.replicate 256 ([.bool false]:List Value)).flatten).flatten).flatten).toArray):=by kernel_rfl
theorem z52:(Try.prog.info? 52).bind (·.zero) = some (.agg (((List.replicate 3 (List.replicate 2 (List.replicate 256 ([.bool false]:List Value)).flatten).flatten).flatten ++ ((List.replicate 256 ([.bool false]:List Value)).flatten ++ (([.int .u8 0]:List Value) ++ (([.int .i64 0]:List Value) ++ ([.int .i64 0]:List Value)))))).toArray):=by kernel_rfl
theorem z54:(Try.prog.info? 54).bind (·.zero) = some (.agg #[.int .u8 0,.slice .none 0 0]):=by kernel_rfl
theorem z77:(Try.prog.info? 77).bind (·.zero) = some (.agg #[.int .u8 0,.int .u8 0,.int .i64 0,.slice .none 0 0,.int .i64 0,.int .i64 0,.int .i64 0,.int .i64 0,.int .i64 0,.bool false,.bool false,.bool false,.bool false]):=by kernel_rfl
theorem z78:(Try.prog.info? 78).bind (·.zero) = some (.agg ((List.replicate 256 ([.bool false]:List Value)).flatten).toArray):=by kernel_rfl
theorem z80:(Try.prog.info? 80).bind (·.zero) = some (.agg #[.int .u8 0,.int .u8 0,.int .u8 0]):=by kernel_rfl
theorem z82:(Try.prog.info? 82).bind (·.zero) = some (.agg (((List.replicate 256 ([.bool false]:List Value)).flatten ++ ((([.slice .none 0 0]:List Value) ++ (([.slice .none 0 0]:List Value) ++ ([.bool false]:List Value))) ++ (([.bool false]:List Value) ++ (([.map .none]:List Value) ++ (([.int .u8 0]:List Value) ++ (([.int .u8 0]:List Value) ++ (([.int .u8 0]:List Value) ++ (([.int .i64 0]:List Value) ++ (List.replicate 3 ([.int .u8 0]:List Value)).flatten))))))))).toArray):=by kernel_rfl
theorem z87:(Try.prog.info? 87).bind (·.zero) = some (.pointer .none):=by kernel_rfl
theorem z88:(Try.prog.info? 88).bind (·.zero) = some (.agg ((List.replicate 2 (List.replicate 256 ([.bool false]:List Value)).flatten).flatten).toArray):=by kernel_rfl
theorem z90:(Try.prog.info? 90).bind (·.zero) = some (.agg #[.int .i64 0,.int .i64 0,.int .u32 0,.int .i64 0]):=by kernel_rfl
theorem z115:(Try.prog.info? 115).bind (·.zero) = some (.agg #[.nilFunc,.nilFunc,.nilFunc,.nilFunc,.nilFunc]):=by kernel_rfl
theorem mt79:MapTy Try.prog 79 5 87 .u8:=MapTy.of (by kernel_rfl)
theorem ptr32:ptrB Try.prog 32 = true:=by kernel_rfl
theorem ptr87:ptrB Try.prog 87 = true:=by kernel_rfl
theorem ptr92:ptrB Try.prog 92 = true:=by kernel_rfl
theorem eq43:eqB Try.prog 43 = true:=by kernel_rfl
theorem un24:Try.prog.underlying 24 = some (.slice 5):=by kernel_rfl
theorem un25:Try.prog.underlying 25 = some (.slice 43):=by kernel_rfl
theorem un27:Try.prog.underlying 27 = some (.slice 77):=by kernel_rfl
theorem un47:Try.prog.underlying 47 = some (.slice 54):=by kernel_rfl
theorem un58:Try.prog.underlying 58 = some (.slice 90):=by kernel_rfl
theorem un75:Try.prog.underlying 75 = some (.slice 68):=by kernel_rfl
theorem by24:bytesB Try.prog 24 (.int .u8) = true:=by kernel_rfl
theorem by25:bytesB Try.prog 25 (.st (.pair (.int .u8) (.pair .bool .bool))) = true:=by kernel_rfl
theorem by27:bytesB Try.prog 27 (.st (.pair (.int .u8) (.pair (.int .u8) (.pair (.int .i64) (.pair (.sl (.int .u32)) (.pair (.int .i64) (.pair (.int .i64) (.pair (.int .i64) (.pair (.int .i64) (.pair (.int .i64) (.pair .bool (.pair .bool (.pair .bool .bool))))))))))))) = true:=by kernel_rfl
theorem by47:bytesB Try.prog 47 (.st (.pair (.int .u8) (.sl (.int .u8)))) = true:=by kernel_rfl
theorem by58:bytesB Try.prog 58 (.st (.pair (.int .i64) (.pair (.int .i64) (.pair (.int .u32) (.int .i64))))) = true:=by kernel_rfl
theorem by75:bytesB Try.prog 75 (.int .u32) = true:=by kernel_rfl
theorem cb51:a_G Try.prog 51 = true:=by kernel_rfl
theorem cb52:a_G Try.prog 52 = true:=by kernel_rfl
theorem cb53:a_G Try.prog 53 = true:=by kernel_rfl
theorem cb54:a_G Try.prog 54 = true:=by kernel_rfl
theorem cb60:a_G Try.prog 60 = true:=by kernel_rfl
@[reducible] def gf0:GT:=.pair (.int .u8) (.sl (.int .u8))
@[reducible] def gt0:GT:=.st gf0
@[reducible] def gf1:GT:=.pair (.int .u8) (.pair .bool .bool)
@[reducible] def gt1:GT:=.st gf1
@[reducible] def gf2:GT:=.pair (.int .u8) (.pair (.int .u32) (.int .i64))
@[reducible] def gt2:GT:=.st gf2
@[reducible] def gf3:GT:=.pair .bool (.pair (.int .u8) (.pair .bool (.int .u8)))
@[reducible] def gt3:GT:=.st gf3
@[reducible] def gf4:GT:=.pair (.int .i64) (.pair (.int .i64) (.pair (.int .u32) (.int .i64)))
@[reducible] def gt4:GT:=.st gf4
@[reducible] def gf5:GT:=.pair .raw (.pair (.sl gt2) .bool)
@[reducible] def gt5:GT:=.st gf5
@[reducible] def gf6:GT:=.pair (.arr 3 (.arr 2 (.arr 256 .bool))) (.pair (.arr 256 .bool) (.pair (.int .u8) (.pair (.int .i64) (.int .i64))))
@[reducible] def gt6:GT:=.st gf6
@[reducible] def gf7:GT:=.pair (.int .u8) (.pair (.int .u8) (.pair (.int .i64) (.pair .raw (.pair (.int .i64) (.pair (.int .i64) (.pair (.int .i64) (.pair (.int .i64) (.pair (.int .i64) (.pair .bool (.pair .bool (.pair .bool .bool)))))))))))
@[reducible] def gt7:GT:=.st gf7
@[reducible] def gf8:GT:=.pair (.int .u8) (.pair (.int .u8) (.pair (.int .i64) (.pair (.sl (.int .u32)) (.pair (.int .i64) (.pair (.int .i64) (.pair (.int .i64) (.pair (.int .i64) (.pair (.int .i64) (.pair .bool (.pair .bool (.pair .bool .bool)))))))))))
@[reducible] def gt8:GT:=.st gf8
@[reducible] def gf9:GT:=.pair (.arr 256 .bool) (.pair gt5 (.pair .bool (.pair .raw (.pair (.int .u8) (.pair (.int .u8) (.pair (.int .u8) (.pair (.int .i64) (.arr 3 (.int .u8)))))))))
@[reducible] def gt9:GT:=.st gf9
@[reducible] def gf10:GT:=.pair (.sl gt8) (.pair (.sl gt2) .bool)
@[reducible] def gt10:GT:=.st gf10
@[reducible] def gf11:GT:=.pair (.arr 256 .bool) (.pair gt10 (.pair .bool (.pair .raw (.pair (.int .u8) (.pair (.int .u8) (.pair (.int .u8) (.pair (.int .i64) (.arr 3 (.int .u8)))))))))
@[reducible] def gt11:GT:=.st gf11
theorem wr {P:Program} {Q:Exit → Act → World → Prop} {a:Act} {w:World} {id:Nat} {l:List Oper} (h:wpList P l.toArray Q l a w):Code.wp P (Code.region id l.toArray false) Q a w:=wp_region_lit h
theorem wn {P:Program} {ops:Array Oper} {Q:Exit → Act → World → Prop} {a:Act} {w:World} (h:Q Exit.normal a w):wpList P ops Q [] a w:=wpList_nil h
theorem ws {P:Program} {Q:Exit → Act → World → Prop} {a:Act} {w:World} {x y:Code} (h:Code.wp P x (Exit.then (Code.wp P y Q) Q) a w):Code.wp P (x.seq y) Q a w:=wp_seq h
theorem oi {α:Type} {a b:α} (h:some a = some b):a = b:=Option.some.inj h
theorem bf {b:Bool} (h:b = false):¬ b = true:=Bool.eq_false_iff.1 h
theorem sub_m {l:List (Nat × Value)}:∀ {l':List (Nat × Value)},(l'.map fun p=>lk l p.1) = (l'.map fun p=>some p.2) → sub l' l
  |[],_=>trivial
  |(i,v)::l',h=>by
    simp only [List.map_cons,List.cons.injEq] at h
    exact ⟨h.1,sub_m h.2⟩
theorem StD.su {ds:List Deferred} {N:Nat} {a:Act} {l l':List (Nat × Value)} (S:StD ds N a l) (h:(l'.map fun p=>lk l p.1) = (l'.map fun p=>some p.2):=by kernel_rfl):StD ds N a l':=S.sub (sub_m h)
section
variable {r:Option Nat} {ds:List Deferred} {N:Nat} {a:Act} {l:List (Nat × Value)} {w:World} {ops:Array Oper} {Q:Exit → Act → World → Prop} {K:Act → World → Prop} {l0:List Oper} {l':List (Nat × Value)}
end
end Go.Proofs.Ytionknddmlmhlaa
