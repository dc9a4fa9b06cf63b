/- Functions of the program, as plain data. -/
import Derived.Test.YtjinaepmpoclaaaGreatDoorLB3
import Derived.Test.YtjinaepmpoclaaaGreatDoorPQ
set_option linter.unusedVariables false
set_option linter.unusedSimpArgs false
namespace Go.Proofs.YtjinaepmpoclaaaGreatDoor
open Go.RowKit
@[reducible] def ji (x:Int):Value:=.int .i64 x
theorem Wd.b_ {w w1:World} {L:List (Option Nat)} (W:Wd w w1 L) (p q:Nat) {b c:Nat} (h:p ≠ q) (h1:L[p]? = some (some b)) (h2:L[q]? = some (some c)):b ≠ c:=W.bne (c:=c) h h1 h2
set_option maxHeartbeats 4000000
set_option maxRecDepth 100000
def tys:List (TypeId × GT):=[(3,.int .i64),(4,.bool),(5,.int .u8),(9,.str),(22,.int .u16),(23,.sl (.sl (.int .u8))),(26,.int .i64),(29,.sl (.int .i64)),(30,.sl .str),(31,.sl (.int .u8)),(41,.st (.pair (.int .u16) (.sl (.sl (.int .u8))))),(49,.st (.pair .str (.pair .str (.pair .str .bool)))),(51,.st (.pair (.int .i64) (.pair (.int .i64) (.pair (.int .i64) (.pair .bool (.st (.pair .str (.pair .str (.pair .str .bool))))))))),(54,.st (.pair (.int .i64) (.pair (.int .u16) (.sl (.sl (.int .u8)))))),(64,.int .u64),(68,.raw),(71,.st (.pair (.int .u8) (.pair (.int .u8) (.int .u8)))),(76,.st (.pair (.st (.pair (.int .i64) (.pair (.int .i64) (.pair (.int .i64) (.pair .bool (.st (.pair .str (.pair .str (.pair .str .bool))))))))) (.pair .raw (.pair (.sl (.st (.pair (.int .i64) (.sl (.int .u8))))) (.pair (.st (.pair (.int .u8) (.pair (.int .u8) (.int .u8)))) (.pair .bool (.pair .raw (.pair .raw (.pair .raw (.pair (.sl (.sl (.int .u8))) (.arr 2 .bool))))))))))),(82,.arr 3 .str),(83,.arr 3 (.int .i64)),(87,.int .u8),(88,.int .u32),(90,.st (.pair (.int .u8) (.pair (.int .u32) (.pair (.int .u16) (.int .i64))))),(112,.int .u64),(128,.st (.pair (.int .u8) (.pair .str (.pair (.int .i64) (.pair .bool (.pair .bool (.int .u8))))))),(143,.sl (.st (.pair (.int .u8) (.pair .str (.pair (.int .i64) (.pair .bool (.pair .bool (.int .u8)))))))),(144,.arr 7 (.st (.pair (.int .u8) (.pair .str (.pair (.int .i64) (.pair .bool (.pair .bool (.int .u8))))))))]
theorem tys_ok:tysOk Tryz.prog tys = true:=by kernel_rfl
instance:TyOk Tryz.prog tys:=⟨tys_ok⟩
theorem ty3:tiQ Tryz.prog (.int .i64) false 3 [] 0 = true:=gtOf.tie tys_ok (by kernel_rfl)
theorem ty4:tiQ Tryz.prog .bool false 4 [] 0 = true:=gtOf.tie tys_ok (by kernel_rfl)
theorem ty5:tiQ Tryz.prog (.int .u8) false 5 [] 0 = true:=gtOf.tie tys_ok (by kernel_rfl)
theorem ty9:tiQ Tryz.prog .str false 9 [] 0 = true:=gtOf.tie tys_ok (by kernel_rfl)
theorem ty22:tiQ Tryz.prog (.int .u16) false 22 [] 0 = true:=gtOf.tie tys_ok (by kernel_rfl)
theorem ty23:tiQ Tryz.prog (.sl (.sl (.int .u8))) false 23 [] 0 = true:=gtOf.tie tys_ok (by kernel_rfl)
theorem ty29:tiQ Tryz.prog (.sl (.int .i64)) false 29 [] 0 = true:=gtOf.tie tys_ok (by kernel_rfl)
theorem ty30:tiQ Tryz.prog (.sl .str) false 30 [] 0 = true:=gtOf.tie tys_ok (by kernel_rfl)
theorem ty31:tiQ Tryz.prog (.sl (.int .u8)) false 31 [] 0 = true:=gtOf.tie tys_ok (by kernel_rfl)
theorem ty41:tiQ Tryz.prog (.st (.pair (.int .u16) (.sl (.sl (.int .u8))))) false 41 [] 0 = true:=gtOf.tie tys_ok (by kernel_rfl)
theorem ty49:tiQ Tryz.prog (.st (.pair .str (.pair .str (.pair .str .bool)))) false 49 [] 0 = true:=gtOf.tie tys_ok (by kernel_rfl)
theorem ty51:tiQ Tryz.prog (.st (.pair (.int .i64) (.pair (.int .i64) (.pair (.int .i64) (.pair .bool (.st (.pair .str (.pair .str (.pair .str .bool))))))))) false 51 [] 0 = true:=gtOf.tie tys_ok (by kernel_rfl)
theorem ty68:tiQ Tryz.prog .raw false 68 [] 0 = true:=gtOf.tie tys_ok (by kernel_rfl)
theorem ty71:tiQ Tryz.prog (.st (.pair (.int .u8) (.pair (.int .u8) (.int .u8)))) false 71 [] 0 = true:=gtOf.tie tys_ok (by kernel_rfl)
theorem ty76:tiQ Tryz.prog (.st (.pair (.st (.pair (.int .i64) (.pair (.int .i64) (.pair (.int .i64) (.pair .bool (.st (.pair .str (.pair .str (.pair .str .bool))))))))) (.pair .raw (.pair (.sl (.st (.pair (.int .i64) (.sl (.int .u8))))) (.pair (.st (.pair (.int .u8) (.pair (.int .u8) (.int .u8)))) (.pair .bool (.pair .raw (.pair .raw (.pair .raw (.pair (.sl (.sl (.int .u8))) (.arr 2 .bool))))))))))) false 76 [] 0 = true:=gtOf.tie tys_ok (by kernel_rfl)
theorem ty82:tiQ Tryz.prog (.arr 3 .str) false 82 [] 0 = true:=gtOf.tie tys_ok (by kernel_rfl)
theorem ty83:tiQ Tryz.prog (.arr 3 (.int .i64)) false 83 [] 0 = true:=gtOf.tie tys_ok (by kernel_rfl)
theorem ty87:tiQ Tryz.prog (.int .u8) false 87 [] 0 = true:=gtOf.tie tys_ok (by kernel_rfl)
theorem ty88:tiQ Tryz.prog (.int .u32) false 88 [] 0 = true:=gtOf.tie tys_ok (by kernel_rfl)
theorem ty90:tiQ Tryz.prog (.st (.pair (.int .u8) (.pair (.int .u32) (.pair (.int .u16) (.int .i64))))) false 90 [] 0 = true:=gtOf.tie tys_ok (by kernel_rfl)
theorem ty112:tiQ Tryz.prog (.int .u64) false 112 [] 0 = true:=gtOf.tie tys_ok (by kernel_rfl)
theorem ty128:tiQ Tryz.prog (.st (.pair (.int .u8) (.pair .str (.pair (.int .i64) (.pair .bool (.pair .bool (.int .u8))))))) false 128 [] 0 = true:=gtOf.tie tys_ok (by kernel_rfl)
theorem ty143:tiQ Tryz.prog (.sl (.st (.pair (.int .u8) (.pair .str (.pair (.int .i64) (.pair .bool (.pair .bool (.int .u8)))))))) false 143 [] 0 = true:=gtOf.tie tys_ok (by kernel_rfl)
theorem ty144:tiQ Tryz.prog (.arr 7 (.st (.pair (.int .u8) (.pair .str (.pair (.int .i64) (.pair .bool (.pair .bool (.int .u8)))))))) false 144 [] 0 = true:=gtOf.tie tys_ok (by kernel_rfl)
theorem tyw41_1:tiQ Tryz.prog (.st (.pair (.int .u16) .raw)) false 41 [] 0 = true:=by kernel_rfl
theorem tyw54_2:tiQ Tryz.prog (.st (.pair (.int .i64) (.pair (.int .u16) .raw))) false 54 [] 0 = true:=by kernel_rfl
theorem tyr23:tiQ Tryz.prog .raw false 23 [] 0 = true:=by kernel_rfl
theorem z5:(Tryz.prog.info? 5).bind (·.zero) = some (.int .u8 0):=by kernel_rfl
theorem z23:(Tryz.prog.info? 23).bind (·.zero) = some (.slice .none 0 0):=by kernel_rfl
theorem z31:(Tryz.prog.info? 31).bind (·.zero) = some (.slice .none 0 0):=by kernel_rfl
theorem z41:(Tryz.prog.info? 41).bind (·.zero) = some (.agg #[.int .u16 0,.slice .none 0 0]):=by kernel_rfl
theorem z51:(Tryz.prog.info? 51).bind (·.zero) = some (.agg #[.int .i64 0,.int .i64 0,.int .i64 0,.bool false,.string ⟨#[]⟩,.string ⟨#[]⟩,.string ⟨#[]⟩,.bool false]):=by kernel_rfl
theorem z54:(Tryz.prog.info? 54).bind (·.zero) = some (.agg #[.int .i64 0,.int .u16 0,.slice .none 0 0]):=by kernel_rfl
theorem z71:(Tryz.prog.info? 71).bind (·.zero) = some (.agg #[.int .u8 0,.int .u8 0,.int .u8 0]):=by kernel_rfl
theorem z76:(Tryz.prog.info? 76).bind (·.zero) = some (.agg #[.int .i64 0,.int .i64 0,.int .i64 0,.bool false,.string ⟨#[]⟩,.string ⟨#[]⟩,.string ⟨#[]⟩,.bool false,.map .none,.slice .none 0 0,.int .u8 0,.int .u8 0,.int .u8 0,.bool false,.pointer .none,.pointer .none,.pointer .none,.slice .none 0 0,.bool false,.bool false]):=by kernel_rfl
theorem z82:(Tryz.prog.info? 82).bind (·.zero) = some (.agg #[.string ⟨#[]⟩,.string ⟨#[]⟩,.string ⟨#[]⟩]):=by kernel_rfl
theorem z83:(Tryz.prog.info? 83).bind (·.zero) = some (.agg #[.int .i64 0,.int .i64 0,.int .i64 0]):=by kernel_rfl
theorem z90:(Tryz.prog.info? 90).bind (·.zero) = some (.agg #[.int .u8 0,.int .u32 0,.int .u16 0,.int .i64 0]):=by kernel_rfl
theorem z128:(Tryz.prog.info? 128).bind (·.zero) = some (.agg #[.int .u8 0,.string ⟨#[]⟩,.int .i64 0,.bool false,.bool false,.int .u8 0]):=by kernel_rfl
theorem ptr25:ptrB Tryz.prog 25 = true:=by kernel_rfl
theorem ptr45:ptrB Tryz.prog 45 = true:=by kernel_rfl
theorem mp68:mapB Tryz.prog 68 = true:=by kernel_rfl
theorem u8b31:u8B Tryz.prog 31 9 = true:=by kernel_rfl
@[reducible] def gl0:List (Int × (List Int) × Int × Bool × Bool × Int):=[(0,[82,69,65,68,89],6,false,false,0),(3,[65,83,75],6,true,false,1),(18,[73,68,69,78,84,73,70,89],6,true,false,1),(37,[83,73,90,69],10,false,false,1),(40,[82,69,65,68],10,false,true,1),(42,[87,82,73,84,69],10,false,true,2),(53,[83,89,78,67,72,82,79,78,73,90,69],10,false,true,0)]
theorem eq71:eqB Tryz.prog 71 = true:=by kernel_rfl
theorem un23:Tryz.prog.underlying 23 = some (.slice 31):=by kernel_rfl
theorem un29:Tryz.prog.underlying 29 = some (.slice 3):=by kernel_rfl
theorem un30:Tryz.prog.underlying 30 = some (.slice 9):=by kernel_rfl
theorem un31:Tryz.prog.underlying 31 = some (.slice 5):=by kernel_rfl
theorem by23:bytesB Tryz.prog 23 (.sl (.int .u8)) = true:=by kernel_rfl
theorem by29:bytesB Tryz.prog 29 (.int .i64) = true:=by kernel_rfl
theorem by30:bytesB Tryz.prog 30 .str = true:=by kernel_rfl
theorem by31:bytesB Tryz.prog 31 (.int .u8) = true:=by kernel_rfl
theorem cb12:a_I Tryz.prog 12 = true:=by kernel_rfl
theorem cb13:a_I Tryz.prog 13 = true:=by kernel_rfl
theorem cb24:a_I Tryz.prog 24 = true:=by kernel_rfl
theorem cb25:a_I Tryz.prog 25 = true:=by kernel_rfl
theorem cb30:a_I Tryz.prog 30 = true:=by kernel_rfl
theorem cb33:a_I Tryz.prog 33 = true:=by kernel_rfl
theorem cb76:a_I Tryz.prog 76 = true:=by kernel_rfl
@[reducible] def gf0:GT:=.pair (.int .i64) (.sl (.int .u8))
@[reducible] def gt0:GT:=.st gf0
@[reducible] def gf1:GT:=.pair (.int .u16) (.sl (.sl (.int .u8)))
@[reducible] def gt1:GT:=.st gf1
@[reducible] def gf2:GT:=.pair .str (.pair .str (.pair .str .bool))
@[reducible] def gt2:GT:=.st gf2
@[reducible] def gf3:GT:=.pair (.int .i64) (.pair (.int .u16) .raw)
@[reducible] def gt3:GT:=.st gf3
@[reducible] def gf4:GT:=.pair (.int .u8) (.pair (.int .u8) (.int .u8))
@[reducible] def gt4:GT:=.st gf4
@[reducible] def gf5:GT:=.pair (.int .i64) gf1
@[reducible] def gt5:GT:=.st gf5
@[reducible] def gf6:GT:=.pair (.int .u8) (.pair (.int .u32) (.pair (.int .u16) (.int .i64)))
@[reducible] def gt6:GT:=.st gf6
@[reducible] def gf7:GT:=.pair (.int .u8) (.pair .str (.pair (.int .i64) (.pair .bool (.pair .bool (.int .u8)))))
@[reducible] def gt7:GT:=.st gf7
@[reducible] def gf8:GT:=.pair (.int .i64) (.pair (.int .i64) (.pair (.int .i64) (.pair .bool gt2)))
@[reducible] def gt8:GT:=.st gf8
@[reducible] def gf9:GT:=.pair gt8 (.pair .raw (.pair (.sl gt0) (.pair gt4 (.pair .bool (.pair .raw (.pair .raw (.pair .raw (.pair (.sl (.sl (.int .u8))) (.arr 2 .bool)))))))))
@[reducible] def gt9:GT:=.st gf9
theorem wr {P:Program} {Q:Exit → Act → World → Prop} {a:Act} {w:World} {id:Nat} {l:List Oper} (h:wpList P l.toArray Q l a w):Code.wp P (Code.region id l.toArray false) Q a w:=wp_region_lit h
theorem wn {P:Program} {ops:Array Oper} {Q:Exit → Act → World → Prop} {a:Act} {w:World} (h:Q Exit.normal a w):wpList P ops Q [] a w:=wpList_nil h
theorem ws {P:Program} {Q:Exit → Act → World → Prop} {a:Act} {w:World} {x y:Code} (h:Code.wp P x (Exit.then (Code.wp P y Q) Q) a w):Code.wp P (x.seq y) Q a w:=wp_seq h
theorem oi {α:Type} {a b:α} (h:some a = some b):a = b:=Option.some.inj h
theorem bf {b:Bool} (h:b = false):¬ b = true:=Bool.eq_false_iff.1 h
theorem sub_m {l:List (Nat × Value)}:∀ {l':List (Nat × Value)},(l'.map fun p=>lk l p.1) = (l'.map fun p=>some p.2) → sub l' l
  |[],_=>trivial
  |(i,v)::l',h=>by
    simp only [List.map_cons,List.cons.injEq] at h
    exact ⟨h.1,sub_m h.2⟩
theorem StD.su {ds:List Deferred} {N:Nat} {a:Act} {l l':List (Nat × Value)} (S:StD ds N a l) (h:(l'.map fun p=>lk l p.1) = (l'.map fun p=>some p.2):=by kernel_rfl):StD ds N a l':=S.sub (sub_m h)
section
variable {r:Option Nat} {ds:List Deferred} {N:Nat} {a:Act} {l:List (Nat × Value)} {w:World} {ops:Array Oper} {Q:Exit → Act → World → Prop} {K:Act → World → Prop} {l0:List Oper} {l':List (Nat × Value)}
end
end Go.Proofs.YtjinaepmpoclaaaGreatDoor
