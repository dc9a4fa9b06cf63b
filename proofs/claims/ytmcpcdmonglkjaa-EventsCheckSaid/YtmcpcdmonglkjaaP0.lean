/- Functions of the program, as plain data. -/
import Derived.Test.YtmcpcdmonglkjaaLB3
set_option linter.unusedVariables false
set_option linter.unusedSimpArgs false
namespace Go.Proofs.Ytmcpcdmonglkjaa
open Go.RowKit
@[reducible] def ji (x:Int):Value:=.int .i64 x
theorem Wd.b_ {w w1:World} {L:List (Option Nat)} (W:Wd w w1 L) (p q:Nat) {b c:Nat} (h:p ≠ q) (h1:L[p]? = some (some b)) (h2:L[q]? = some (some c)):b ≠ c:=W.bne (c:=c) h h1 h2
set_option maxHeartbeats 4000000
set_option maxRecDepth 100000
def tys:List (TypeId × GT):=[(3,.int .i64),(4,.bool),(5,.int .u8),(23,.sl (.st (.pair (.sl (.int .u8)) (.pair (.int .u8) (.int .u8))))),(25,.sl (.int .u8)),(26,.int .i64),(29,.int .u8),(31,.st (.pair (.int .i64) (.pair (.int .u8) (.pair (.sl (.int .u8)) (.int .u8))))),(33,.st (.pair (.sl (.int .u8)) (.pair (.int .u8) (.int .u8)))),(48,.sl (.st (.pair (.int .i64) (.pair (.int .u8) (.pair (.sl (.int .u8)) (.int .u8)))))),(53,.raw),(66,.st (.pair .bool (.pair .bool (.pair (.int .i64) (.pair (.sl (.st (.pair (.sl (.int .u8)) (.pair (.int .u8) (.int .u8))))) (.sl (.st (.pair (.int .i64) (.pair (.int .u8) (.pair (.sl (.int .u8)) (.int .u8))))))))))),(67,.sl .raw),(77,.sl (.int .i64)),(83,.sl (.sl (.st (.pair (.sl (.int .u8)) (.pair (.int .u8) (.int .u8))))))]
theorem tys_ok:tysOk Try.prog tys = true:=by kernel_rfl
instance:TyOk Try.prog tys:=⟨tys_ok⟩
theorem ty3:tie Try.prog (.int .i64) false 3 [] 0 = true:=gtOf.tie tys_ok (by kernel_rfl)
theorem ty4:tie Try.prog .bool false 4 [] 0 = true:=gtOf.tie tys_ok (by kernel_rfl)
theorem ty5:tie Try.prog (.int .u8) false 5 [] 0 = true:=gtOf.tie tys_ok (by kernel_rfl)
theorem ty23:tie Try.prog (.sl (.st (.pair (.sl (.int .u8)) (.pair (.int .u8) (.int .u8))))) false 23 [] 0 = true:=gtOf.tie tys_ok (by kernel_rfl)
theorem ty25:tie Try.prog (.sl (.int .u8)) false 25 [] 0 = true:=gtOf.tie tys_ok (by kernel_rfl)
theorem ty26:tie Try.prog (.int .i64) false 26 [] 0 = true:=gtOf.tie tys_ok (by kernel_rfl)
theorem ty29:tie Try.prog (.int .u8) false 29 [] 0 = true:=gtOf.tie tys_ok (by kernel_rfl)
theorem ty31:tie Try.prog (.st (.pair (.int .i64) (.pair (.int .u8) (.pair (.sl (.int .u8)) (.int .u8))))) false 31 [] 0 = true:=gtOf.tie tys_ok (by kernel_rfl)
theorem ty33:tie Try.prog (.st (.pair (.sl (.int .u8)) (.pair (.int .u8) (.int .u8)))) false 33 [] 0 = true:=gtOf.tie tys_ok (by kernel_rfl)
theorem ty48:tie Try.prog (.sl (.st (.pair (.int .i64) (.pair (.int .u8) (.pair (.sl (.int .u8)) (.int .u8)))))) false 48 [] 0 = true:=gtOf.tie tys_ok (by kernel_rfl)
theorem ty53:tie Try.prog .raw false 53 [] 0 = true:=gtOf.tie tys_ok (by kernel_rfl)
theorem ty67:tie Try.prog (.sl .raw) false 67 [] 0 = true:=gtOf.tie tys_ok (by kernel_rfl)
theorem ty77:tie Try.prog (.sl (.int .i64)) false 77 [] 0 = true:=gtOf.tie tys_ok (by kernel_rfl)
theorem ty83:tie Try.prog (.sl (.sl (.st (.pair (.sl (.int .u8)) (.pair (.int .u8) (.int .u8)))))) false 83 [] 0 = true:=gtOf.tie tys_ok (by kernel_rfl)
theorem tyr48:tie Try.prog .raw false 48 [] 0 = true:=by kernel_rfl
theorem z31:(Try.prog.info? 31).bind (·.zero) = some (.agg #[.int .i64 0,.int .u8 0,.slice .none 0 0,.int .u8 0]):=by kernel_rfl
theorem z33:(Try.prog.info? 33).bind (·.zero) = some (.agg #[.slice .none 0 0,.int .u8 0,.int .u8 0]):=by kernel_rfl
theorem z48:(Try.prog.info? 48).bind (·.zero) = some (.slice .none 0 0):=by kernel_rfl
theorem z66:(Try.prog.info? 66).bind (·.zero) = some (.agg #[.bool false,.bool false,.int .i64 0,.slice .none 0 0,.slice .none 0 0]):=by kernel_rfl
theorem z87:(Try.prog.info? 87).bind (·.zero) = some (.nilFunc):=by kernel_rfl
theorem fn87:funcB Try.prog 87 = true:=by kernel_rfl
theorem st72:SetTy Try.prog 72 70 5 4 .u8:=SetTy.of (by kernel_rfl)
theorem ptr53:ptrB Try.prog 53 = true:=by kernel_rfl
theorem un23:Try.prog.underlying 23 = some (.slice 33):=by kernel_rfl
theorem un25:Try.prog.underlying 25 = some (.slice 5):=by kernel_rfl
theorem un48:Try.prog.underlying 48 = some (.slice 31):=by kernel_rfl
theorem un67:Try.prog.underlying 67 = some (.slice 53):=by kernel_rfl
theorem by23:bytesB Try.prog 23 (.st (.pair (.sl (.int .u8)) (.pair (.int .u8) (.int .u8)))) = true:=by kernel_rfl
theorem by25:bytesB Try.prog 25 (.int .u8) = true:=by kernel_rfl
theorem by48:bytesB Try.prog 48 (.st (.pair (.int .i64) (.pair (.int .u8) (.pair (.sl (.int .u8)) (.int .u8))))) = true:=by kernel_rfl
theorem cb47:a_F Try.prog 47 = true:=by kernel_rfl
theorem cb52:a_F Try.prog 52 = true:=by kernel_rfl
theorem cb59:a_F Try.prog 59 = true:=by kernel_rfl
theorem cb63:a_F Try.prog 63 = true:=by kernel_rfl
theorem cb68:a_F Try.prog 68 = true:=by kernel_rfl
@[reducible] def gf0:GT:=.pair (.sl (.int .u8)) (.pair (.int .u8) (.int .u8))
@[reducible] def gt0:GT:=.st gf0
@[reducible] def gf1:GT:=.pair (.int .i64) (.pair (.int .u8) (.pair (.sl (.int .u8)) (.int .u8)))
@[reducible] def gt1:GT:=.st gf1
@[reducible] def gf2:GT:=.pair .bool (.pair .bool (.pair (.int .i64) (.pair (.sl gt0) (.sl gt1))))
@[reducible] def gt2:GT:=.st gf2
theorem wr {P:Program} {Q:Exit → Act → World → Prop} {a:Act} {w:World} {id:Nat} {l:List Oper} (h:wpList P l.toArray Q l a w):Code.wp P (Code.region id l.toArray false) Q a w:=wp_region_lit h
theorem wn {P:Program} {ops:Array Oper} {Q:Exit → Act → World → Prop} {a:Act} {w:World} (h:Q Exit.normal a w):wpList P ops Q [] a w:=wpList_nil h
theorem ws {P:Program} {Q:Exit → Act → World → Prop} {a:Act} {w:World} {x y:Code} (h:Code.wp P x (Exit.then (Code.wp P y Q) Q) a w):Code.wp P (x.seq y) Q a w:=wp_seq h
theorem oi {α:Type} {a b:α} (h:some a = some b):a = b:=Option.some.inj h
theorem bf {b:Bool} (h:b = false):¬ b = true:=Bool.eq_false_iff.1 h
theorem sub_m {l:List (Nat × Value)}:∀ {l':List (Nat × Value)},(l'.map fun p=>lk l p.1) = (l'.map fun p=>some p.2) → sub l' l
  |[],_=>trivial
  |(i,v)::l',h=>by
    simp only [List.map_cons,List.cons.injEq] at h
    exact ⟨h.1,sub_m h.2⟩
theorem StD.su {ds:List Deferred} {N:Nat} {a:Act} {l l':List (Nat × Value)} (S:StD ds N a l) (h:(l'.map fun p=>lk l p.1) = (l'.map fun p=>some p.2):=by kernel_rfl):StD ds N a l':=S.sub (sub_m h)
section
variable {r:Option Nat} {ds:List Deferred} {N:Nat} {a:Act} {l:List (Nat × Value)} {w:World} {ops:Array Oper} {Q:Exit → Act → World → Prop} {K:Act → World → Prop} {l0:List Oper} {l':List (Nat × Value)}
end
end Go.Proofs.Ytmcpcdmonglkjaa
