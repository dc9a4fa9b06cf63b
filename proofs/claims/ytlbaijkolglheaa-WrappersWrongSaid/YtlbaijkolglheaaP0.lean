/- Functions of the program, as plain data. -/
import Derived.Test.YtlbaijkolglheaaLB3
set_option linter.unusedVariables false
set_option linter.unusedSimpArgs false
namespace Go.Proofs.Ytlbaijkolglheaa
open Go.RowKit
@[reducible] def ji (x:Int):Value:=.int .i64 x
theorem Wd.b_ {w w1:World} {L:List (Option Nat)} (W:Wd w w1 L) (p q:Nat) {b c:Nat} (h:p ≠ q) (h1:L[p]? = some (some b)) (h2:L[q]? = some (some c)):b ≠ c:=W.bne (c:=c) h h1 h2
abbrev yC:=Int × Int × Bool × Int × (Sl (Int))
abbrev yT:=(Int × Int × Int × Bool) × Int × (Sl (Int))
abbrev yD:=Int × yC × (Int × Int × Int) × Int × Int × Int × (Sl (Int)) × Bool × Bool × Int × Bool × Bool
abbrev yH:=(Sl (Int)) × yC × (List Int) × (List Int) × (Int × Int × Int) × Bool × Bool × Int
set_option maxHeartbeats 4000000
set_option maxRecDepth 100000
def tys:List (TypeId × GT):=[(3,.int .i64),(4,.bool),(5,.int .u8),(9,.str),(22,.int .u32),(23,.sl (.int .u8)),(25,.st (.pair (.int .u32) (.pair (.int .u32) (.pair .bool (.pair (.int .u8) (.sl (.int .u8))))))),(28,.int .i64),(36,.int .u8),(38,.st (.pair (.int .u32) (.pair (.int .u32) (.int .u8)))),(43,.int .u16),(49,.sl (.int .u8)),(51,.st (.pair (.sl (.int .u8)) (.pair (.st (.pair (.int .u32) (.pair (.int .u32) (.pair .bool (.pair (.int .u8) (.sl (.int .u8))))))) (.pair .str (.pair .str (.pair (.st (.pair (.int .u32) (.pair (.int .u32) (.int .u8)))) (.pair .bool (.pair .bool (.int .i64))))))))),(54,.int .u8),(58,.st (.pair (.int .u8) (.pair (.sl (.int .u8)) (.int .i64)))),(70,.st (.pair (.int .u8) (.pair (.int .u16) (.pair (.int .u16) .bool)))),(72,.st (.pair (.st (.pair (.int .u8) (.pair (.int .u16) (.pair (.int .u16) .bool)))) (.pair (.int .i64) (.sl (.int .u8))))),(76,.sl (.sl (.int .u8))),(85,.int .u8),(87,.st (.pair (.int .u8) (.pair (.st (.pair (.int .u32) (.pair (.int .u32) (.pair .bool (.pair (.int .u8) (.sl (.int .u8))))))) (.pair (.st (.pair (.int .u32) (.pair (.int .u32) (.int .u8)))) (.pair (.int .i64) (.pair (.int .i64) (.pair (.int .i64) (.pair (.sl (.int .u8)) (.pair (.sl (.int .u8)) (.pair .bool .bool)))))))))),(89,.raw),(91,.st (.pair (.st (.pair (.int .u8) (.pair (.st (.pair (.int .u32) (.pair (.int .u32) (.pair .bool (.pair (.int .u8) (.sl (.int .u8))))))) (.pair (.st (.pair (.int .u32) (.pair (.int .u32) (.int .u8)))) (.pair (.int .i64) (.pair (.int .i64) (.pair (.int .i64) (.pair (.sl (.int .u8)) (.pair (.sl (.int .u8)) (.pair .bool .bool)))))))))) (.pair .raw (.pair (.int .i64) (.pair .bool .bool))))),(98,.int .u64),(100,.raw),(101,.sl .raw),(104,.sl (.int .i64)),(111,.int .u8)]
theorem tys_ok:tysOk Try.prog tys = true:=by kernel_rfl
instance:TyOk Try.prog tys:=⟨tys_ok⟩
theorem ty3:tie Try.prog (.int .i64) false 3 [] 0 = true:=gtOf.tie tys_ok (by kernel_rfl)
theorem ty4:tie Try.prog .bool false 4 [] 0 = true:=gtOf.tie tys_ok (by kernel_rfl)
theorem ty5:tie Try.prog (.int .u8) false 5 [] 0 = true:=gtOf.tie tys_ok (by kernel_rfl)
theorem ty9:tie Try.prog .str false 9 [] 0 = true:=gtOf.tie tys_ok (by kernel_rfl)
theorem ty22:tie Try.prog (.int .u32) false 22 [] 0 = true:=gtOf.tie tys_ok (by kernel_rfl)
theorem ty23:tie Try.prog (.sl (.int .u8)) false 23 [] 0 = true:=gtOf.tie tys_ok (by kernel_rfl)
theorem ty25:tie Try.prog (.st (.pair (.int .u32) (.pair (.int .u32) (.pair .bool (.pair (.int .u8) (.sl (.int .u8))))))) false 25 [] 0 = true:=gtOf.tie tys_ok (by kernel_rfl)
theorem ty28:tie Try.prog (.int .i64) false 28 [] 0 = true:=gtOf.tie tys_ok (by kernel_rfl)
theorem ty36:tie Try.prog (.int .u8) false 36 [] 0 = true:=gtOf.tie tys_ok (by kernel_rfl)
theorem ty38:tie Try.prog (.st (.pair (.int .u32) (.pair (.int .u32) (.int .u8)))) false 38 [] 0 = true:=gtOf.tie tys_ok (by kernel_rfl)
theorem ty43:tie Try.prog (.int .u16) false 43 [] 0 = true:=gtOf.tie tys_ok (by kernel_rfl)
theorem ty49:tie Try.prog (.sl (.int .u8)) false 49 [] 0 = true:=gtOf.tie tys_ok (by kernel_rfl)
theorem ty51:tie Try.prog (.st (.pair (.sl (.int .u8)) (.pair (.st (.pair (.int .u32) (.pair (.int .u32) (.pair .bool (.pair (.int .u8) (.sl (.int .u8))))))) (.pair .str (.pair .str (.pair (.st (.pair (.int .u32) (.pair (.int .u32) (.int .u8)))) (.pair .bool (.pair .bool (.int .i64))))))))) false 51 [] 0 = true:=gtOf.tie tys_ok (by kernel_rfl)
theorem ty54:tie Try.prog (.int .u8) false 54 [] 0 = true:=gtOf.tie tys_ok (by kernel_rfl)
theorem ty58:tie Try.prog (.st (.pair (.int .u8) (.pair (.sl (.int .u8)) (.int .i64)))) false 58 [] 0 = true:=gtOf.tie tys_ok (by kernel_rfl)
theorem ty70:tie Try.prog (.st (.pair (.int .u8) (.pair (.int .u16) (.pair (.int .u16) .bool)))) false 70 [] 0 = true:=gtOf.tie tys_ok (by kernel_rfl)
theorem ty72:tie Try.prog (.st (.pair (.st (.pair (.int .u8) (.pair (.int .u16) (.pair (.int .u16) .bool)))) (.pair (.int .i64) (.sl (.int .u8))))) false 72 [] 0 = true:=gtOf.tie tys_ok (by kernel_rfl)
theorem ty76:tie Try.prog (.sl (.sl (.int .u8))) false 76 [] 0 = true:=gtOf.tie tys_ok (by kernel_rfl)
theorem ty85:tie Try.prog (.int .u8) false 85 [] 0 = true:=gtOf.tie tys_ok (by kernel_rfl)
theorem ty98:tie Try.prog (.int .u64) false 98 [] 0 = true:=gtOf.tie tys_ok (by kernel_rfl)
theorem ty100:tie Try.prog .raw false 100 [] 0 = true:=gtOf.tie tys_ok (by kernel_rfl)
theorem ty101:tie Try.prog (.sl .raw) false 101 [] 0 = true:=gtOf.tie tys_ok (by kernel_rfl)
theorem ty104:tie Try.prog (.sl (.int .i64)) false 104 [] 0 = true:=gtOf.tie tys_ok (by kernel_rfl)
theorem tyw51_0:tie Try.prog (.st (.pair .raw (.pair (.st (.pair (.int .u32) (.pair (.int .u32) (.pair .bool (.pair (.int .u8) (.sl (.int .u8))))))) (.pair .str (.pair .str (.pair (.st (.pair (.int .u32) (.pair (.int .u32) (.int .u8)))) (.pair .bool (.pair .bool (.int .i64))))))))) false 51 [] 0 = true:=by kernel_rfl
theorem tyw58_1:tie Try.prog (.st (.pair (.int .u8) (.pair .raw (.int .i64)))) false 58 [] 0 = true:=by kernel_rfl
theorem tyw87_6:tie Try.prog (.st (.pair (.int .u8) (.pair (.st (.pair (.int .u32) (.pair (.int .u32) (.pair .bool (.pair (.int .u8) (.sl (.int .u8))))))) (.pair (.st (.pair (.int .u32) (.pair (.int .u32) (.int .u8)))) (.pair (.int .i64) (.pair (.int .i64) (.pair (.int .i64) (.pair .raw (.pair (.sl (.int .u8)) (.pair .bool .bool)))))))))) false 87 [] 0 = true:=by kernel_rfl
theorem tyw91_0x6_1:tie Try.prog (.st (.pair (.st (.pair (.int .u8) (.pair (.st (.pair (.int .u32) (.pair (.int .u32) (.pair .bool (.pair (.int .u8) (.sl (.int .u8))))))) (.pair (.st (.pair (.int .u32) (.pair (.int .u32) (.int .u8)))) (.pair (.int .i64) (.pair (.int .i64) (.pair (.int .i64) (.pair .raw (.pair (.sl (.int .u8)) (.pair .bool .bool)))))))))) (.pair .raw (.pair (.int .i64) (.pair .bool .bool))))) false 91 [] 0 = true:=by kernel_rfl
theorem tyr23:tie Try.prog .raw false 23 [] 0 = true:=by kernel_rfl
theorem tyr49:tie Try.prog .raw false 49 [] 0 = true:=by kernel_rfl
theorem tyr89:tie Try.prog .raw false 89 [] 0 = true:=by kernel_rfl
theorem z5:(Try.prog.info? 5).bind (·.zero) = some (.int .u8 0):=by kernel_rfl
theorem z25:(Try.prog.info? 25).bind (·.zero) = some (.agg #[.int .u32 0,.int .u32 0,.bool false,.int .u8 0,.slice .none 0 0]):=by kernel_rfl
theorem z38:(Try.prog.info? 38).bind (·.zero) = some (.agg #[.int .u32 0,.int .u32 0,.int .u8 0]):=by kernel_rfl
theorem z51:(Try.prog.info? 51).bind (·.zero) = some (.agg #[.slice .none 0 0,.int .u32 0,.int .u32 0,.bool false,.int .u8 0,.slice .none 0 0,.string ⟨#[]⟩,.string ⟨#[]⟩,.int .u32 0,.int .u32 0,.int .u8 0,.bool false,.bool false,.int .i64 0]):=by kernel_rfl
theorem z58:(Try.prog.info? 58).bind (·.zero) = some (.agg #[.int .u8 0,.slice .none 0 0,.int .i64 0]):=by kernel_rfl
theorem z70:(Try.prog.info? 70).bind (·.zero) = some (.agg #[.int .u8 0,.int .u16 0,.int .u16 0,.bool false]):=by kernel_rfl
theorem z72:(Try.prog.info? 72).bind (·.zero) = some (.agg #[.int .u8 0,.int .u16 0,.int .u16 0,.bool false,.int .i64 0,.slice .none 0 0]):=by kernel_rfl
theorem z87:(Try.prog.info? 87).bind (·.zero) = some (.agg #[.int .u8 0,.int .u32 0,.int .u32 0,.bool false,.int .u8 0,.slice .none 0 0,.int .u32 0,.int .u32 0,.int .u8 0,.int .i64 0,.int .i64 0,.int .i64 0,.slice .none 0 0,.slice .none 0 0,.bool false,.bool false]):=by kernel_rfl
theorem z91:(Try.prog.info? 91).bind (·.zero) = some (.agg #[.int .u8 0,.int .u32 0,.int .u32 0,.bool false,.int .u8 0,.slice .none 0 0,.int .u32 0,.int .u32 0,.int .u8 0,.int .i64 0,.int .i64 0,.int .i64 0,.slice .none 0 0,.slice .none 0 0,.bool false,.bool false,.nilIface,.int .i64 0,.bool false,.bool false]):=by kernel_rfl
theorem ifc89:ifcB Try.prog 89 = true:=by kernel_rfl
theorem mth68_Run:methB Try.prog 68 "Run" 67 = true:=by kernel_rfl
theorem mth68_Wants:methB Try.prog 68 "Wants" 68 = true:=by kernel_rfl
theorem ptr68:ptrB Try.prog 68 = true:=by kernel_rfl
theorem ptr73:ptrB Try.prog 73 = true:=by kernel_rfl
theorem eq38:eqB Try.prog 38 = true:=by kernel_rfl
theorem un23:Try.prog.underlying 23 = some (.slice 5):=by kernel_rfl
theorem un49:Try.prog.underlying 49 = some (.slice 54):=by kernel_rfl
theorem by23:bytesB Try.prog 23 (.int .u8) = true:=by kernel_rfl
theorem by49:bytesB Try.prog 49 (.int .u8) = true:=by kernel_rfl
theorem cb48:a_K Try.prog 48 = true:=by kernel_rfl
@[reducible] def gf0:GT:=.pair (.int .u8) (.pair .raw (.int .i64))
@[reducible] def gt0:GT:=.st gf0
@[reducible] def gf1:GT:=.pair (.int .u32) (.pair (.int .u32) (.int .u8))
@[reducible] def gt1:GT:=.st gf1
@[reducible] def gf2:GT:=.pair (.int .u8) (.pair (.sl (.int .u8)) (.int .i64))
@[reducible] def gt2:GT:=.st gf2
@[reducible] def gf3:GT:=.pair (.int .u8) (.pair (.int .u16) (.pair (.int .u16) .bool))
@[reducible] def gt3:GT:=.st gf3
@[reducible] def gf4:GT:=.pair (.int .u32) (.pair (.int .u32) (.pair .bool (.pair (.int .u8) (.sl (.int .u8)))))
@[reducible] def gt4:GT:=.st gf4
@[reducible] def gf5:GT:=.pair gt3 (.pair (.int .i64) (.sl (.int .u8)))
@[reducible] def gt5:GT:=.st gf5
@[reducible] def gf6:GT:=.pair .raw (.pair gt4 (.pair .str (.pair .str (.pair gt1 (.pair .bool (.pair .bool (.int .i64)))))))
@[reducible] def gt6:GT:=.st gf6
@[reducible] def gf7:GT:=.pair (.sl (.int .u8)) (.pair gt4 (.pair .str (.pair .str (.pair gt1 (.pair .bool (.pair .bool (.int .i64)))))))
@[reducible] def gt7:GT:=.st gf7
@[reducible] def gf8:GT:=.pair (.int .u8) (.pair gt4 (.pair gt1 (.pair (.int .i64) (.pair (.int .i64) (.pair (.int .i64) (.pair .raw (.pair (.sl (.int .u8)) (.pair .bool .bool))))))))
@[reducible] def gt8:GT:=.st gf8
@[reducible] def gf9:GT:=.pair (.int .u8) (.pair gt4 (.pair gt1 (.pair (.int .i64) (.pair (.int .i64) (.pair (.int .i64) (.pair (.sl (.int .u8)) (.pair (.sl (.int .u8)) (.pair .bool .bool))))))))
@[reducible] def gt9:GT:=.st gf9
@[reducible] def gf10:GT:=.pair gt8 (.pair .raw (.pair (.int .i64) (.pair .bool .bool)))
@[reducible] def gt10:GT:=.st gf10
@[reducible] def gf11:GT:=.pair gt9 (.pair .raw (.pair (.int .i64) (.pair .bool .bool)))
theorem wr {P:Program} {Q:Exit → Act → World → Prop} {a:Act} {w:World} {id:Nat} {l:List Oper} (h:wpList P l.toArray Q l a w):Code.wp P (Code.region id l.toArray false) Q a w:=wp_region_lit h
theorem wn {P:Program} {ops:Array Oper} {Q:Exit → Act → World → Prop} {a:Act} {w:World} (h:Q Exit.normal a w):wpList P ops Q [] a w:=wpList_nil h
theorem ws {P:Program} {Q:Exit → Act → World → Prop} {a:Act} {w:World} {x y:Code} (h:Code.wp P x (Exit.then (Code.wp P y Q) Q) a w):Code.wp P (x.seq y) Q a w:=wp_seq h
theorem oi {α:Type} {a b:α} (h:some a = some b):a = b:=Option.some.inj h
theorem bf {b:Bool} (h:b = false):¬ b = true:=Bool.eq_false_iff.1 h
theorem sub_m {l:List (Nat × Value)}:∀ {l':List (Nat × Value)},(l'.map fun p=>lk l p.1) = (l'.map fun p=>some p.2) → sub l' l
  |[],_=>trivial
  |(i,v)::l',h=>by
    simp only [List.map_cons,List.cons.injEq] at h
    exact ⟨h.1,sub_m h.2⟩
theorem StD.su {ds:List Deferred} {N:Nat} {a:Act} {l l':List (Nat × Value)} (S:StD ds N a l) (h:(l'.map fun p=>lk l p.1) = (l'.map fun p=>some p.2):=by kernel_rfl):StD ds N a l':=S.sub (sub_m h)
section
variable {r:Option Nat} {ds:List Deferred} {N:Nat} {a:Act} {l:List (Nat × Value)} {w:World} {ops:Array Oper} {Q:Exit → Act → World → Prop} {K:Act → World → Prop} {l0:List Oper} {l':List (Nat × Value)}
end
end Go.Proofs.Ytlbaijkolglheaa
