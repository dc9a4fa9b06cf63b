/- Functions of the program, as plain data. -/
import Derived.Test.YtlgalcekkffhnaaLB3
set_option linter.unusedVariables false
set_option linter.unusedSimpArgs false
namespace Go.Proofs.Ytlgalcekkffhnaa
open Go.RowKit
@[reducible] def ji (x:Int):Value:=.int .i64 x
theorem Wd.b_ {w w1:World} {L:List (Option Nat)} (W:Wd w w1 L) (p q:Nat) {b c:Nat} (h:p ≠ q) (h1:L[p]? = some (some b)) (h2:L[q]? = some (some c)):b ≠ c:=W.bne (c:=c) h h1 h2
set_option maxHeartbeats 4000000
set_option maxRecDepth 100000
def tys:List (TypeId × GT):=[(3,.int .i64),(4,.bool),(5,.int .u8),(9,.str),(22,.int .u16),(23,.sl (.sl (.int .u8))),(25,.st (.pair (.int .u16) (.sl (.sl (.int .u8))))),(27,.sl (.int .i64)),(28,.sl (.int .u8)),(29,.int .i64),(40,.sl (.arr 2 (.int .u16))),(41,.arr 2 (.int .u16)),(54,.st (.pair (.int .i64) (.pair (.int .u16) (.sl (.sl (.int .u8))))))]
theorem tys_ok:tysOk Try.prog tys = true:=by kernel_rfl
instance:TyOk Try.prog tys:=⟨tys_ok⟩
theorem ty3:tie Try.prog (.int .i64) false 3 [] 0 = true:=gtOf.tie tys_ok (by kernel_rfl)
theorem ty5:tie Try.prog (.int .u8) false 5 [] 0 = true:=gtOf.tie tys_ok (by kernel_rfl)
theorem ty9:tie Try.prog .str false 9 [] 0 = true:=gtOf.tie tys_ok (by kernel_rfl)
theorem ty22:tie Try.prog (.int .u16) false 22 [] 0 = true:=gtOf.tie tys_ok (by kernel_rfl)
theorem ty23:tie Try.prog (.sl (.sl (.int .u8))) false 23 [] 0 = true:=gtOf.tie tys_ok (by kernel_rfl)
theorem ty25:tie Try.prog (.st (.pair (.int .u16) (.sl (.sl (.int .u8))))) false 25 [] 0 = true:=gtOf.tie tys_ok (by kernel_rfl)
theorem ty27:tie Try.prog (.sl (.int .i64)) false 27 [] 0 = true:=gtOf.tie tys_ok (by kernel_rfl)
theorem ty28:tie Try.prog (.sl (.int .u8)) false 28 [] 0 = true:=gtOf.tie tys_ok (by kernel_rfl)
theorem ty40:tie Try.prog (.sl (.arr 2 (.int .u16))) false 40 [] 0 = true:=gtOf.tie tys_ok (by kernel_rfl)
theorem ty41:tie Try.prog (.arr 2 (.int .u16)) false 41 [] 0 = true:=gtOf.tie tys_ok (by kernel_rfl)
theorem tyw25_1:tie Try.prog (.st (.pair (.int .u16) .raw)) false 25 [] 0 = true:=by kernel_rfl
theorem tyw54_2:tie Try.prog (.st (.pair (.int .i64) (.pair (.int .u16) .raw))) false 54 [] 0 = true:=by kernel_rfl
theorem tyr23:tie Try.prog .raw false 23 [] 0 = true:=by kernel_rfl
theorem z5:(Try.prog.info? 5).bind (·.zero) = some (.int .u8 0):=by kernel_rfl
theorem z25:(Try.prog.info? 25).bind (·.zero) = some (.agg #[.int .u16 0,.slice .none 0 0]):=by kernel_rfl
theorem z41:(Try.prog.info? 41).bind (·.zero) = some (.agg #[.int .u16 0,.int .u16 0]):=by kernel_rfl
theorem z54:(Try.prog.info? 54).bind (·.zero) = some (.agg #[.int .i64 0,.int .u16 0,.slice .none 0 0]):=by kernel_rfl
theorem ptr46:ptrB Try.prog 46 = true:=by kernel_rfl
theorem un23:Try.prog.underlying 23 = some (.slice 28):=by kernel_rfl
theorem un27:Try.prog.underlying 27 = some (.slice 3):=by kernel_rfl
theorem un28:Try.prog.underlying 28 = some (.slice 5):=by kernel_rfl
theorem by23:bytesB Try.prog 23 (.sl (.int .u8)) = true:=by kernel_rfl
theorem by27:bytesB Try.prog 27 (.int .i64) = true:=by kernel_rfl
theorem by28:bytesB Try.prog 28 (.int .u8) = true:=by kernel_rfl
@[reducible] def gf0:GT:=.pair (.int .u16) (.sl (.sl (.int .u8)))
@[reducible] def gt0:GT:=.st gf0
@[reducible] def gf1:GT:=.pair (.int .i64) (.pair (.int .u16) .raw)
@[reducible] def gt1:GT:=.st gf1
@[reducible] def gf2:GT:=.pair (.int .i64) gf0
@[reducible] def gt2:GT:=.st gf2
theorem wr {P:Program} {Q:Exit → Act → World → Prop} {a:Act} {w:World} {id:Nat} {l:List Oper} (h:wpList P l.toArray Q l a w):Code.wp P (Code.region id l.toArray false) Q a w:=wp_region_lit h
theorem wn {P:Program} {ops:Array Oper} {Q:Exit → Act → World → Prop} {a:Act} {w:World} (h:Q Exit.normal a w):wpList P ops Q [] a w:=wpList_nil h
theorem ws {P:Program} {Q:Exit → Act → World → Prop} {a:Act} {w:World} {x y:Code} (h:Code.wp P x (Exit.then (Code.wp P y Q) Q) a w):Code.wp P (x.seq y) Q a w:=wp_seq h
theorem oi {α:Type} {a b:α} (h:some a = some b):a = b:=Option.some.inj h
theorem bf {b:Bool} (h:b = false):¬ b = true:=Bool.eq_false_iff.1 h
theorem sub_m {l:List (Nat × Value)}:∀ {l':List (Nat × Value)},(l'.map fun p=>lk l p.1) = (l'.map fun p=>some p.2) → sub l' l
  |[],_=>trivial
  |(i,v)::l',h=>by
    simp only [List.map_cons,List.cons.injEq] at h
    exact ⟨h.1,sub_m h.2⟩
theorem StD.su {ds:List Deferred} {N:Nat} {a:Act} {l l':List (Nat × Value)} (S:StD ds N a l) (h:(l'.map fun p=>lk l p.1) = (l'.map fun p=>some p.2):=by kernel_rfl):StD ds N a l':=S.sub (sub_m h)
section
variable {r:Option Nat} {ds:List Deferred} {N:Nat} {a:Act} {l:List (Nat × Value)} {w:World} {ops:Array Oper} {Q:Exit → Act → World → Prop} {K:Act → World → Prop} {l0:List Oper} {l':List (Nat × Value)}
end
end Go.Proofs.Ytlgalcekkffhnaa
