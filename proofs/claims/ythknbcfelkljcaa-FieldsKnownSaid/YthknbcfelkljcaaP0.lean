/- Functions of the program, as plain data. -/
import Derived.Test.YthknbcfelkljcaaLB3
set_option linter.unusedVariables false
set_option linter.unusedSimpArgs false
namespace Go.Proofs.Ythknbcfelkljcaa
open Go.RowKit
@[reducible] def ji (x:Int):Value:=.int .i64 x
theorem Wd.b_ {w w1:World} {L:List (Option Nat)} (W:Wd w w1 L) (p q:Nat) {b c:Nat} (h:p ≠ q) (h1:L[p]? = some (some b)) (h2:L[q]? = some (some c)):b ≠ c:=W.bne (c:=c) h h1 h2
set_option maxHeartbeats 4000000
set_option maxRecDepth 100000
def tys:List (TypeId × GT):=[(3,.int .i64),(4,.bool),(5,.int .u8),(9,.str),(22,.sl (.st (.pair (.int .u8) (.pair (.int .u8) (.pair (.int .i64) (.pair (.sl (.int .u32)) (.pair (.int .i64) (.pair (.int .i64) (.pair (.int .i64) (.pair (.int .i64) (.pair (.int .i64) (.pair .bool (.pair .bool (.pair .bool .bool)))))))))))))),(23,.sl (.st (.pair (.int .u8) (.pair (.int .u32) (.int .i64))))),(25,.st (.pair (.sl (.st (.pair (.int .u8) (.pair (.int .u8) (.pair (.int .i64) (.pair (.sl (.int .u32)) (.pair (.int .i64) (.pair (.int .i64) (.pair (.int .i64) (.pair (.int .i64) (.pair (.int .i64) (.pair .bool (.pair .bool (.pair .bool .bool)))))))))))))) (.pair (.sl (.st (.pair (.int .u8) (.pair (.int .u32) (.int .i64))))) .bool))),(26,.sl (.int .u8)),(29,.sl (.st (.pair (.int .i64) (.pair (.int .i64) (.pair (.int .u32) (.int .i64)))))),(30,.int .i64),(33,.int .u8),(34,.int .u32),(36,.st (.pair (.int .i64) (.pair (.int .i64) (.pair (.int .u32) (.int .i64))))),(39,.st (.pair (.int .i64) (.pair (.int .i64) (.int .i64)))),(44,.sl (.int .u32)),(46,.st (.pair (.int .u8) (.pair (.int .u8) (.pair (.int .i64) (.pair (.sl (.int .u32)) (.pair (.int .i64) (.pair (.int .i64) (.pair (.int .i64) (.pair (.int .i64) (.pair (.int .i64) (.pair .bool (.pair .bool (.pair .bool .bool))))))))))))),(52,.sl (.st (.pair (.int .u8) (.pair (.int .u8) (.pair (.int .u8) (.pair (.int .u8) (.pair (.int .i16) (.pair (.int .u16) (.pair (.int .u8) (.int .u8)))))))))),(54,.st (.pair .bool (.sl (.st (.pair (.int .u8) (.pair (.int .u8) (.pair (.int .u8) (.pair (.int .u8) (.pair (.int .i16) (.pair (.int .u16) (.pair (.int .u8) (.int .u8)))))))))))),(55,.arr 2 (.int .u8)),(61,.int .i16),(62,.int .u16),(64,.st (.pair (.int .u8) (.pair (.int .u8) (.pair (.int .u8) (.pair (.int .u8) (.pair (.int .i16) (.pair (.int .u16) (.pair (.int .u8) (.int .u8))))))))),(75,.arr 5 .raw),(77,.st (.pair (.int .u8) (.pair (.int .u32) (.int .i64)))),(78,.sl (.int .i64)),(87,.arr 3 (.int .i64))]
theorem tys_ok:tysOk Try.prog tys = true:=by kernel_rfl
instance:TyOk Try.prog tys:=⟨tys_ok⟩
theorem ty3:tie Try.prog (.int .i64) false 3 [] 0 = true:=gtOf.tie tys_ok (by kernel_rfl)
theorem ty4:tie Try.prog .bool false 4 [] 0 = true:=gtOf.tie tys_ok (by kernel_rfl)
theorem ty5:tie Try.prog (.int .u8) false 5 [] 0 = true:=gtOf.tie tys_ok (by kernel_rfl)
theorem ty9:tie Try.prog .str false 9 [] 0 = true:=gtOf.tie tys_ok (by kernel_rfl)
theorem ty22:tie Try.prog (.sl (.st (.pair (.int .u8) (.pair (.int .u8) (.pair (.int .i64) (.pair (.sl (.int .u32)) (.pair (.int .i64) (.pair (.int .i64) (.pair (.int .i64) (.pair (.int .i64) (.pair (.int .i64) (.pair .bool (.pair .bool (.pair .bool .bool)))))))))))))) false 22 [] 0 = true:=gtOf.tie tys_ok (by kernel_rfl)
theorem ty23:tie Try.prog (.sl (.st (.pair (.int .u8) (.pair (.int .u32) (.int .i64))))) false 23 [] 0 = true:=gtOf.tie tys_ok (by kernel_rfl)
theorem ty25:tie Try.prog (.st (.pair (.sl (.st (.pair (.int .u8) (.pair (.int .u8) (.pair (.int .i64) (.pair (.sl (.int .u32)) (.pair (.int .i64) (.pair (.int .i64) (.pair (.int .i64) (.pair (.int .i64) (.pair (.int .i64) (.pair .bool (.pair .bool (.pair .bool .bool)))))))))))))) (.pair (.sl (.st (.pair (.int .u8) (.pair (.int .u32) (.int .i64))))) .bool))) false 25 [] 0 = true:=gtOf.tie tys_ok (by kernel_rfl)
theorem ty26:tie Try.prog (.sl (.int .u8)) false 26 [] 0 = true:=gtOf.tie tys_ok (by kernel_rfl)
theorem ty29:tie Try.prog (.sl (.st (.pair (.int .i64) (.pair (.int .i64) (.pair (.int .u32) (.int .i64)))))) false 29 [] 0 = true:=gtOf.tie tys_ok (by kernel_rfl)
theorem ty33:tie Try.prog (.int .u8) false 33 [] 0 = true:=gtOf.tie tys_ok (by kernel_rfl)
theorem ty34:tie Try.prog (.int .u32) false 34 [] 0 = true:=gtOf.tie tys_ok (by kernel_rfl)
theorem ty36:tie Try.prog (.st (.pair (.int .i64) (.pair (.int .i64) (.pair (.int .u32) (.int .i64))))) false 36 [] 0 = true:=gtOf.tie tys_ok (by kernel_rfl)
theorem ty39:tie Try.prog (.st (.pair (.int .i64) (.pair (.int .i64) (.int .i64)))) false 39 [] 0 = true:=gtOf.tie tys_ok (by kernel_rfl)
theorem ty44:tie Try.prog (.sl (.int .u32)) false 44 [] 0 = true:=gtOf.tie tys_ok (by kernel_rfl)
theorem ty46:tie Try.prog (.st (.pair (.int .u8) (.pair (.int .u8) (.pair (.int .i64) (.pair (.sl (.int .u32)) (.pair (.int .i64) (.pair (.int .i64) (.pair (.int .i64) (.pair (.int .i64) (.pair (.int .i64) (.pair .bool (.pair .bool (.pair .bool .bool))))))))))))) false 46 [] 0 = true:=gtOf.tie tys_ok (by kernel_rfl)
theorem ty52:tie Try.prog (.sl (.st (.pair (.int .u8) (.pair (.int .u8) (.pair (.int .u8) (.pair (.int .u8) (.pair (.int .i16) (.pair (.int .u16) (.pair (.int .u8) (.int .u8)))))))))) false 52 [] 0 = true:=gtOf.tie tys_ok (by kernel_rfl)
theorem ty54:tie Try.prog (.st (.pair .bool (.sl (.st (.pair (.int .u8) (.pair (.int .u8) (.pair (.int .u8) (.pair (.int .u8) (.pair (.int .i16) (.pair (.int .u16) (.pair (.int .u8) (.int .u8)))))))))))) false 54 [] 0 = true:=gtOf.tie tys_ok (by kernel_rfl)
theorem ty55:tie Try.prog (.arr 2 (.int .u8)) false 55 [] 0 = true:=gtOf.tie tys_ok (by kernel_rfl)
theorem ty61:tie Try.prog (.int .i16) false 61 [] 0 = true:=gtOf.tie tys_ok (by kernel_rfl)
theorem ty62:tie Try.prog (.int .u16) false 62 [] 0 = true:=gtOf.tie tys_ok (by kernel_rfl)
theorem ty64:tie Try.prog (.st (.pair (.int .u8) (.pair (.int .u8) (.pair (.int .u8) (.pair (.int .u8) (.pair (.int .i16) (.pair (.int .u16) (.pair (.int .u8) (.int .u8))))))))) false 64 [] 0 = true:=gtOf.tie tys_ok (by kernel_rfl)
theorem ty75:tie Try.prog (.arr 5 .raw) false 75 [] 0 = true:=gtOf.tie tys_ok (by kernel_rfl)
theorem ty77:tie Try.prog (.st (.pair (.int .u8) (.pair (.int .u32) (.int .i64)))) false 77 [] 0 = true:=gtOf.tie tys_ok (by kernel_rfl)
theorem ty78:tie Try.prog (.sl (.int .i64)) false 78 [] 0 = true:=gtOf.tie tys_ok (by kernel_rfl)
theorem ty87:tie Try.prog (.arr 3 (.int .i64)) false 87 [] 0 = true:=gtOf.tie tys_ok (by kernel_rfl)
theorem tyw22_e_3:tie Try.prog (.sl (.st (.pair (.int .u8) (.pair (.int .u8) (.pair (.int .i64) (.pair .raw (.pair (.int .i64) (.pair (.int .i64) (.pair (.int .i64) (.pair (.int .i64) (.pair (.int .i64) (.pair .bool (.pair .bool (.pair .bool .bool)))))))))))))) false 22 [] 0 = true:=by kernel_rfl
theorem tyw25_0:tie Try.prog (.st (.pair .raw (.pair (.sl (.st (.pair (.int .u8) (.pair (.int .u32) (.int .i64))))) .bool))) false 25 [] 0 = true:=by kernel_rfl
theorem tyw25_0_1:tie Try.prog (.st (.pair .raw (.pair .raw .bool))) false 25 [] 0 = true:=by kernel_rfl
theorem tyw46_3:tie Try.prog (.st (.pair (.int .u8) (.pair (.int .u8) (.pair (.int .i64) (.pair .raw (.pair (.int .i64) (.pair (.int .i64) (.pair (.int .i64) (.pair (.int .i64) (.pair (.int .i64) (.pair .bool (.pair .bool (.pair .bool .bool))))))))))))) false 46 [] 0 = true:=by kernel_rfl
theorem tyw54_1:tie Try.prog (.st (.pair .bool .raw)) false 54 [] 0 = true:=by kernel_rfl
theorem tyr22:tie Try.prog .raw false 22 [] 0 = true:=by kernel_rfl
theorem tyr26:tie Try.prog .raw false 26 [] 0 = true:=by kernel_rfl
theorem tyr44:tie Try.prog .raw false 44 [] 0 = true:=by kernel_rfl
theorem tyr52:tie Try.prog .raw false 52 [] 0 = true:=by kernel_rfl
theorem z3:(Try.prog.info? 3).bind (·.zero) = some (.int .i64 0):=by kernel_rfl
theorem z5:(Try.prog.info? 5).bind (·.zero) = some (.int .u8 0):=by kernel_rfl
theorem z25:(Try.prog.info? 25).bind (·.zero) = some (.agg #[.slice .none 0 0,.slice .none 0 0,.bool false]):=by kernel_rfl
theorem z36:(Try.prog.info? 36).bind (·.zero) = some (.agg #[.int .i64 0,.int .i64 0,.int .u32 0,.int .i64 0]):=by kernel_rfl
theorem z39:(Try.prog.info? 39).bind (·.zero) = some (.agg #[.int .i64 0,.int .i64 0,.int .i64 0]):=by kernel_rfl
theorem z46:(Try.prog.info? 46).bind (·.zero) = some (.agg #[.int .u8 0,.int .u8 0,.int .i64 0,.slice .none 0 0,.int .i64 0,.int .i64 0,.int .i64 0,.int .i64 0,.int .i64 0,.bool false,.bool false,.bool false,.bool false]):=by kernel_rfl
theorem z54:(Try.prog.info? 54).bind (·.zero) = some (.agg #[.bool false,.slice .none 0 0]):=by kernel_rfl
theorem z55:(Try.prog.info? 55).bind (·.zero) = some (.agg #[.int .u8 0,.int .u8 0]):=by kernel_rfl
theorem z64:(Try.prog.info? 64).bind (·.zero) = some (.agg #[.int .u8 0,.int .u8 0,.int .u8 0,.int .u8 0,.int .i16 0,.int .u16 0,.int .u8 0,.int .u8 0]):=by kernel_rfl
theorem z75:(Try.prog.info? 75).bind (·.zero) = some (.agg #[.nilFunc,.nilFunc,.nilFunc,.nilFunc,.nilFunc]):=by kernel_rfl
theorem z77:(Try.prog.info? 77).bind (·.zero) = some (.agg #[.int .u8 0,.int .u32 0,.int .i64 0]):=by kernel_rfl
theorem z87:(Try.prog.info? 87).bind (·.zero) = some (.agg #[.int .i64 0,.int .i64 0,.int .i64 0]):=by kernel_rfl
theorem eq36:eqB Try.prog 36 = true:=by kernel_rfl
theorem un22:Try.prog.underlying 22 = some (.slice 46):=by kernel_rfl
theorem un23:Try.prog.underlying 23 = some (.slice 77):=by kernel_rfl
theorem un26:Try.prog.underlying 26 = some (.slice 5):=by kernel_rfl
theorem un29:Try.prog.underlying 29 = some (.slice 36):=by kernel_rfl
theorem un44:Try.prog.underlying 44 = some (.slice 34):=by kernel_rfl
theorem un52:Try.prog.underlying 52 = some (.slice 64):=by kernel_rfl
theorem un78:Try.prog.underlying 78 = some (.slice 3):=by kernel_rfl
theorem by22:bytesB Try.prog 22 (.st (.pair (.int .u8) (.pair (.int .u8) (.pair (.int .i64) (.pair (.sl (.int .u32)) (.pair (.int .i64) (.pair (.int .i64) (.pair (.int .i64) (.pair (.int .i64) (.pair (.int .i64) (.pair .bool (.pair .bool (.pair .bool .bool))))))))))))) = true:=by kernel_rfl
theorem by26:bytesB Try.prog 26 (.int .u8) = true:=by kernel_rfl
theorem by29:bytesB Try.prog 29 (.st (.pair (.int .i64) (.pair (.int .i64) (.pair (.int .u32) (.int .i64))))) = true:=by kernel_rfl
theorem by44:bytesB Try.prog 44 (.int .u32) = true:=by kernel_rfl
theorem by52:bytesB Try.prog 52 (.st (.pair (.int .u8) (.pair (.int .u8) (.pair (.int .u8) (.pair (.int .u8) (.pair (.int .i16) (.pair (.int .u16) (.pair (.int .u8) (.int .u8))))))))) = true:=by kernel_rfl
theorem cb44:a_K Try.prog 44 = true:=by kernel_rfl
theorem cb48:a_K Try.prog 48 = true:=by kernel_rfl
@[reducible] def gf0:GT:=.pair .raw (.pair .raw .bool)
@[reducible] def gt0:GT:=.st gf0
@[reducible] def gf1:GT:=.pair (.int .u8) (.pair (.int .u32) (.int .i64))
@[reducible] def gt1:GT:=.st gf1
@[reducible] def gf2:GT:=.pair (.int .i64) (.pair (.int .i64) (.int .i64))
@[reducible] def gt2:GT:=.st gf2
@[reducible] def gf3:GT:=.pair (.int .i64) (.pair (.int .i64) (.pair (.int .u32) (.int .i64)))
@[reducible] def gt3:GT:=.st gf3
@[reducible] def gf4:GT:=.pair .raw (.pair (.sl gt1) .bool)
@[reducible] def gt4:GT:=.st gf4
@[reducible] def gf5:GT:=.pair (.int .u8) (.pair (.int .u8) (.pair (.int .u8) (.pair (.int .u8) (.pair (.int .i16) (.pair (.int .u16) (.pair (.int .u8) (.int .u8)))))))
@[reducible] def gt5:GT:=.st gf5
@[reducible] def gf6:GT:=.pair .bool (.sl gt5)
@[reducible] def gt6:GT:=.st gf6
@[reducible] def gf7:GT:=.pair (.int .u8) (.pair (.int .u8) (.pair (.int .i64) (.pair .raw (.pair (.int .i64) (.pair (.int .i64) (.pair (.int .i64) (.pair (.int .i64) (.pair (.int .i64) (.pair .bool (.pair .bool (.pair .bool .bool)))))))))))
@[reducible] def gt7:GT:=.st gf7
@[reducible] def gf8:GT:=.pair (.int .u8) (.pair (.int .u8) (.pair (.int .i64) (.pair (.sl (.int .u32)) (.pair (.int .i64) (.pair (.int .i64) (.pair (.int .i64) (.pair (.int .i64) (.pair (.int .i64) (.pair .bool (.pair .bool (.pair .bool .bool)))))))))))
@[reducible] def gt8:GT:=.st gf8
@[reducible] def gf9:GT:=.pair (.sl gt8) (.pair (.sl gt1) .bool)
@[reducible] def gt9:GT:=.st gf9
theorem wr {P:Program} {Q:Exit → Act → World → Prop} {a:Act} {w:World} {id:Nat} {l:List Oper} (h:wpList P l.toArray Q l a w):Code.wp P (Code.region id l.toArray false) Q a w:=wp_region_lit h
theorem wn {P:Program} {ops:Array Oper} {Q:Exit → Act → World → Prop} {a:Act} {w:World} (h:Q Exit.normal a w):wpList P ops Q [] a w:=wpList_nil h
theorem ws {P:Program} {Q:Exit → Act → World → Prop} {a:Act} {w:World} {x y:Code} (h:Code.wp P x (Exit.then (Code.wp P y Q) Q) a w):Code.wp P (x.seq y) Q a w:=wp_seq h
theorem oi {α:Type} {a b:α} (h:some a = some b):a = b:=Option.some.inj h
theorem bf {b:Bool} (h:b = false):¬ b = true:=Bool.eq_false_iff.1 h
theorem sub_m {l:List (Nat × Value)}:∀ {l':List (Nat × Value)},(l'.map fun p=>lk l p.1) = (l'.map fun p=>some p.2) → sub l' l
  |[],_=>trivial
  |(i,v)::l',h=>by
    simp only [List.map_cons,List.cons.injEq] at h
    exact ⟨h.1,sub_m h.2⟩
theorem StD.su {ds:List Deferred} {N:Nat} {a:Act} {l l':List (Nat × Value)} (S:StD ds N a l) (h:(l'.map fun p=>lk l p.1) = (l'.map fun p=>some p.2):=by kernel_rfl):StD ds N a l':=S.sub (sub_m h)
section
variable {r:Option Nat} {ds:List Deferred} {N:Nat} {a:Act} {l:List (Nat × Value)} {w:World} {ops:Array Oper} {Q:Exit → Act → World → Prop} {K:Act → World → Prop} {l0:List Oper} {l':List (Nat × Value)}
end
end Go.Proofs.Ythknbcfelkljcaa
