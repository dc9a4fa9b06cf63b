/- Functions of the program, as plain data. -/
import Derived.Test.YtfelbalkobcfhaaLB3
set_option linter.unusedVariables false
set_option linter.unusedSimpArgs false
namespace Go.Proofs.Ytfelbalkobcfhaa
open Go.RowKit
@[reducible] def ji (x:Int):Value:=.int .i64 x
theorem Wd.b_ {w w1:World} {L:List (Option Nat)} (W:Wd w w1 L) (p q:Nat) {b c:Nat} (h:p ≠ q) (h1:L[p]? = some (some b)) (h2:L[q]? = some (some c)):b ≠ c:=W.bne (c:=c) h h1 h2
set_option maxHeartbeats 4000000
set_option maxRecDepth 100000
def tys:List (TypeId × GT):=[(3,.int .i64),(4,.bool),(5,.int .u8),(22,.sl (.st (.pair (.int .i64) (.pair (.st (.pair (.int .u8) (.pair (.int .u8) (.pair .bool (.pair (.int .i64) (.pair (.int .i64) (.int .u8))))))) (.int .i64))))),(24,.st (.sl (.st (.pair (.int .i64) (.pair (.st (.pair (.int .u8) (.pair (.int .u8) (.pair .bool (.pair (.int .i64) (.pair (.int .i64) (.int .u8))))))) (.int .i64)))))),(26,.int .i64),(28,.int .u8),(29,.int .u8),(31,.st (.pair (.int .u8) (.pair (.int .u8) (.pair .bool (.pair (.int .i64) (.pair (.int .i64) (.int .u8))))))),(33,.st (.pair (.int .i64) (.pair (.st (.pair (.int .u8) (.pair (.int .u8) (.pair .bool (.pair (.int .i64) (.pair (.int .i64) (.int .u8))))))) (.int .i64)))),(34,.sl (.st (.pair (.int .i64) (.int .u8)))),(37,.int .u8),(39,.st (.pair (.int .i64) (.int .u8))),(42,.int .u16),(43,.sl (.int .i64)),(45,.st (.sl (.int .i64))),(53,.st (.pair (.sl (.int .i64)) (.pair (.int .i64) (.int .i64)))),(62,.sl (.st (.pair (.int .u8) (.pair .bool (.pair .bool (.pair (.int .u16) (.pair (.int .u8) (.int .u8)))))))),(69,.sl (.int .u8)),(75,.sl (.st (.pair (.st (.pair (.int .i64) (.int .u8))) (.pair (.int .i64) (.int .i64))))),(79,.st (.pair (.st (.pair (.int .i64) (.int .u8))) (.pair (.int .i64) (.int .i64)))),(91,.st (.pair (.int .u8) (.pair .bool (.pair .bool (.pair (.int .u16) (.pair (.int .u8) (.int .u8))))))),(93,.arr 256 (.int .i64)),(94,.arr 32 (.int .i64)),(96,.st (.pair (.arr 256 (.int .i64)) (.arr 32 (.int .i64)))),(98,.st (.pair (.int .i64) (.pair (.int .i64) (.int .i64)))),(108,.sl (.sl (.int .i64))),(119,.st (.pair (.int .u8) (.pair .bool (.pair (.int .u8) (.pair (.int .u16) (.int .u8)))))),(128,.sl (.int .u16)),(135,.int .u64)]
theorem tys_ok:tysOk Try.prog tys = true:=by kernel_rfl
theorem ty3:tie Try.prog (.int .i64) false 3 [] 0 = true:=gtOf.tie tys_ok (by kernel_rfl)
theorem ty4:tie Try.prog .bool false 4 [] 0 = true:=gtOf.tie tys_ok (by kernel_rfl)
theorem ty5:tie Try.prog (.int .u8) false 5 [] 0 = true:=gtOf.tie tys_ok (by kernel_rfl)
theorem ty22:tie Try.prog (.sl (.st (.pair (.int .i64) (.pair (.st (.pair (.int .u8) (.pair (.int .u8) (.pair .bool (.pair (.int .i64) (.pair (.int .i64) (.int .u8))))))) (.int .i64))))) false 22 [] 0 = true:=gtOf.tie tys_ok (by kernel_rfl)
theorem ty24:tie Try.prog (.st (.sl (.st (.pair (.int .i64) (.pair (.st (.pair (.int .u8) (.pair (.int .u8) (.pair .bool (.pair (.int .i64) (.pair (.int .i64) (.int .u8))))))) (.int .i64)))))) false 24 [] 0 = true:=gtOf.tie tys_ok (by kernel_rfl)
theorem ty26:tie Try.prog (.int .i64) false 26 [] 0 = true:=gtOf.tie tys_ok (by kernel_rfl)
theorem ty28:tie Try.prog (.int .u8) false 28 [] 0 = true:=gtOf.tie tys_ok (by kernel_rfl)
theorem ty29:tie Try.prog (.int .u8) false 29 [] 0 = true:=gtOf.tie tys_ok (by kernel_rfl)
theorem ty31:tie Try.prog (.st (.pair (.int .u8) (.pair (.int .u8) (.pair .bool (.pair (.int .i64) (.pair (.int .i64) (.int .u8))))))) false 31 [] 0 = true:=gtOf.tie tys_ok (by kernel_rfl)
theorem ty33:tie Try.prog (.st (.pair (.int .i64) (.pair (.st (.pair (.int .u8) (.pair (.int .u8) (.pair .bool (.pair (.int .i64) (.pair (.int .i64) (.int .u8))))))) (.int .i64)))) false 33 [] 0 = true:=gtOf.tie tys_ok (by kernel_rfl)
theorem ty34:tie Try.prog (.sl (.st (.pair (.int .i64) (.int .u8)))) false 34 [] 0 = true:=gtOf.tie tys_ok (by kernel_rfl)
theorem ty37:tie Try.prog (.int .u8) false 37 [] 0 = true:=gtOf.tie tys_ok (by kernel_rfl)
theorem ty39:tie Try.prog (.st (.pair (.int .i64) (.int .u8))) false 39 [] 0 = true:=gtOf.tie tys_ok (by kernel_rfl)
theorem ty42:tie Try.prog (.int .u16) false 42 [] 0 = true:=gtOf.tie tys_ok (by kernel_rfl)
theorem ty43:tie Try.prog (.sl (.int .i64)) false 43 [] 0 = true:=gtOf.tie tys_ok (by kernel_rfl)
theorem ty45:tie Try.prog (.st (.sl (.int .i64))) false 45 [] 0 = true:=gtOf.tie tys_ok (by kernel_rfl)
theorem ty53:tie Try.prog (.st (.pair (.sl (.int .i64)) (.pair (.int .i64) (.int .i64)))) false 53 [] 0 = true:=gtOf.tie tys_ok (by kernel_rfl)
theorem ty62:tie Try.prog (.sl (.st (.pair (.int .u8) (.pair .bool (.pair .bool (.pair (.int .u16) (.pair (.int .u8) (.int .u8)))))))) false 62 [] 0 = true:=gtOf.tie tys_ok (by kernel_rfl)
theorem ty69:tie Try.prog (.sl (.int .u8)) false 69 [] 0 = true:=gtOf.tie tys_ok (by kernel_rfl)
theorem ty75:tie Try.prog (.sl (.st (.pair (.st (.pair (.int .i64) (.int .u8))) (.pair (.int .i64) (.int .i64))))) false 75 [] 0 = true:=gtOf.tie tys_ok (by kernel_rfl)
theorem ty79:tie Try.prog (.st (.pair (.st (.pair (.int .i64) (.int .u8))) (.pair (.int .i64) (.int .i64)))) false 79 [] 0 = true:=gtOf.tie tys_ok (by kernel_rfl)
theorem ty91:tie Try.prog (.st (.pair (.int .u8) (.pair .bool (.pair .bool (.pair (.int .u16) (.pair (.int .u8) (.int .u8))))))) false 91 [] 0 = true:=gtOf.tie tys_ok (by kernel_rfl)
theorem ty93:tie Try.prog (.arr 256 (.int .i64)) false 93 [] 0 = true:=gtOf.tie tys_ok (by kernel_rfl)
theorem ty94:tie Try.prog (.arr 32 (.int .i64)) false 94 [] 0 = true:=gtOf.tie tys_ok (by kernel_rfl)
theorem ty98:tie Try.prog (.st (.pair (.int .i64) (.pair (.int .i64) (.int .i64)))) false 98 [] 0 = true:=gtOf.tie tys_ok (by kernel_rfl)
theorem ty108:tie Try.prog (.sl (.sl (.int .i64))) false 108 [] 0 = true:=gtOf.tie tys_ok (by kernel_rfl)
theorem ty119:tie Try.prog (.st (.pair (.int .u8) (.pair .bool (.pair (.int .u8) (.pair (.int .u16) (.int .u8)))))) false 119 [] 0 = true:=gtOf.tie tys_ok (by kernel_rfl)
theorem ty128:tie Try.prog (.sl (.int .u16)) false 128 [] 0 = true:=gtOf.tie tys_ok (by kernel_rfl)
theorem tyr43:tie Try.prog .raw false 43 [] 0 = true:=by kernel_rfl
theorem tyr75:tie Try.prog .raw false 75 [] 0 = true:=by kernel_rfl
theorem z3:(Try.prog.info? 3).bind (·.zero) = some (.int .i64 0):=by kernel_rfl
theorem z24:(Try.prog.info? 24).bind (·.zero) = some (.agg #[.slice .none 0 0]):=by kernel_rfl
theorem z26:(Try.prog.info? 26).bind (·.zero) = some (.int .i64 0):=by kernel_rfl
theorem z31:(Try.prog.info? 31).bind (·.zero) = some (.agg #[.int .u8 0,.int .u8 0,.bool false,.int .i64 0,.int .i64 0,.int .u8 0]):=by kernel_rfl
theorem z33:(Try.prog.info? 33).bind (·.zero) = some (.agg #[.int .i64 0,.int .u8 0,.int .u8 0,.bool false,.int .i64 0,.int .i64 0,.int .u8 0,.int .i64 0]):=by kernel_rfl
theorem z39:(Try.prog.info? 39).bind (·.zero) = some (.agg #[.int .i64 0,.int .u8 0]):=by kernel_rfl
theorem z43:(Try.prog.info? 43).bind (·.zero) = some (.slice .none 0 0):=by kernel_rfl
theorem z45:(Try.prog.info? 45).bind (·.zero) = some (.agg #[.slice .none 0 0]):=by kernel_rfl
theorem z53:(Try.prog.info? 53).bind (·.zero) = some (.agg #[.slice .none 0 0,.int .i64 0,.int .i64 0]):=by kernel_rfl
theorem z72:(Try.prog.info? 72).bind (·.zero) = some (.pointer .none):=by kernel_rfl
theorem z75:(Try.prog.info? 75).bind (·.zero) = some (.slice .none 0 0):=by kernel_rfl
theorem z79:(Try.prog.info? 79).bind (·.zero) = some (.agg #[.int .i64 0,.int .u8 0,.int .i64 0,.int .i64 0]):=by kernel_rfl
theorem z96:(Try.prog.info? 96).bind (·.zero) = some (.agg (((List.replicate 256 ([.int .i64 0]:List Value)).flatten ++ (List.replicate 32 ([.int .i64 0]:List Value)).flatten)).toArray):=by kernel_rfl
theorem z98:(Try.prog.info? 98).bind (·.zero) = some (.agg #[.int .i64 0,.int .i64 0,.int .i64 0]):=by kernel_rfl
theorem z119:(Try.prog.info? 119).bind (·.zero) = some (.agg #[.int .u8 0,.bool false,.int .u8 0,.int .u16 0,.int .u8 0]):=by kernel_rfl
theorem mt70:MapTy Try.prog 70 3 4 .i64:=MapTy.of (by kernel_rfl)
theorem mt71:MapTy Try.prog 71 5 4 .u8:=MapTy.of (by kernel_rfl)
theorem ptr72:ptrB Try.prog 72 = true:=by kernel_rfl
theorem eq39:eqB Try.prog 39 = true:=by kernel_rfl
theorem un22:Try.prog.underlying 22 = some (.slice 33):=by kernel_rfl
theorem un34:Try.prog.underlying 34 = some (.slice 39):=by kernel_rfl
theorem un43:Try.prog.underlying 43 = some (.slice 3):=by kernel_rfl
theorem un75:Try.prog.underlying 75 = some (.slice 79):=by kernel_rfl
theorem by22:bytesB Try.prog 22 (.st (.pair (.int .i64) (.pair (.st (.pair (.int .u8) (.pair (.int .u8) (.pair .bool (.pair (.int .i64) (.pair (.int .i64) (.int .u8))))))) (.int .i64)))) = true:=by kernel_rfl
theorem by34:bytesB Try.prog 34 (.st (.pair (.int .i64) (.int .u8))) = true:=by kernel_rfl
theorem by43:bytesB Try.prog 43 (.int .i64) = true:=by kernel_rfl
theorem by75:bytesB Try.prog 75 (.st (.pair (.st (.pair (.int .i64) (.int .u8))) (.pair (.int .i64) (.int .i64)))) = true:=by kernel_rfl
theorem cb25:a_I Try.prog 25 = true:=by kernel_rfl
theorem cb45:a_I Try.prog 45 = true:=by kernel_rfl
theorem cb47:a_I Try.prog 47 = true:=by kernel_rfl
theorem cb59:a_I Try.prog 59 = true:=by kernel_rfl
theorem cb60:a_I Try.prog 60 = true:=by kernel_rfl
theorem cb68:a_I Try.prog 68 = true:=by kernel_rfl
theorem cb72:a_I Try.prog 72 = true:=by kernel_rfl
@[reducible] def gf0:GT:=.pair (.int .i64) (.int .u8)
@[reducible] def gt0:GT:=.st gf0
@[reducible] def gf1:GT:=.pair (.int .i64) (.pair (.int .i64) (.int .i64))
@[reducible] def gt1:GT:=.st gf1
@[reducible] def gf2:GT:=.pair (.arr 256 (.int .i64)) (.arr 32 (.int .i64))
@[reducible] def gt2:GT:=.st gf2
@[reducible] def gf3:GT:=.pair (.sl (.int .i64)) (.pair (.int .i64) (.int .i64))
@[reducible] def gt3:GT:=.st gf3
@[reducible] def gf4:GT:=.pair gt0 (.pair (.int .i64) (.int .i64))
@[reducible] def gt4:GT:=.st gf4
@[reducible] def gf5:GT:=.pair (.int .u8) (.pair .bool (.pair (.int .u8) (.pair (.int .u16) (.int .u8))))
@[reducible] def gt5:GT:=.st gf5
@[reducible] def gf6:GT:=.pair (.int .u8) (.pair .bool (.pair .bool (.pair (.int .u16) (.pair (.int .u8) (.int .u8)))))
@[reducible] def gt6:GT:=.st gf6
@[reducible] def gf7:GT:=.pair (.int .u8) (.pair (.int .u8) (.pair .bool (.pair (.int .i64) gf0)))
@[reducible] def gt7:GT:=.st gf7
@[reducible] def gf8:GT:=.pair (.int .i64) (.pair gt7 (.int .i64))
@[reducible] def gt8:GT:=.st gf8
@[reducible] def gf9:GT:=.sl gt8
@[reducible] def gt9:GT:=.st gf9
theorem wr {P:Program} {Q:Exit → Act → World → Prop} {a:Act} {w:World} {id:Nat} {l:List Oper} (h:wpList P l.toArray Q l a w):Code.wp P (Code.region id l.toArray false) Q a w:=wp_region_lit h
theorem wn {P:Program} {ops:Array Oper} {Q:Exit → Act → World → Prop} {a:Act} {w:World} (h:Q Exit.normal a w):wpList P ops Q [] a w:=wpList_nil h
theorem ws {P:Program} {Q:Exit → Act → World → Prop} {a:Act} {w:World} {x y:Code} (h:Code.wp P x (Exit.then (Code.wp P y Q) Q) a w):Code.wp P (x.seq y) Q a w:=wp_seq h
theorem wc {P:Program} {Q:Exit → Act → World → Prop} {a:Act} {w:World} {c:Operand} {x y:Code} {t:Bool} (h:a.eval c = Value.bool t) (h1:t = true → Code.wp P x Q a w) (h2:t = false → Code.wp P y Q a w):Code.wp P (Code.cond c x y) Q a w:=wp_cond_split h h1 h2
theorem oi {α:Type} {a b:α} (h:some a = some b):a = b:=Option.some.inj h
theorem bf {b:Bool} (h:b = false):¬ b = true:=Bool.eq_false_iff.1 h
theorem sub_m {l:List (Nat × Value)}:∀ {l':List (Nat × Value)},(l'.map fun p=>lk l p.1) = (l'.map fun p=>some p.2) → sub l' l
  |[],_=>trivial
  |(i,v)::l',h=>by
    simp only [List.map_cons,List.cons.injEq] at h
    exact ⟨h.1,sub_m h.2⟩
theorem StD.su {ds:List Deferred} {N:Nat} {a:Act} {l l':List (Nat × Value)} (S:StD ds N a l) (h:(l'.map fun p=>lk l p.1) = (l'.map fun p=>some p.2):=by kernel_rfl):StD ds N a l':=S.sub (sub_m h)
section
variable {r:Option Nat} {ds:List Deferred} {N:Nat} {a:Act} {l:List (Nat × Value)} {w:World} {ops:Array Oper} {Q:Exit → Act → World → Prop} {K:Act → World → Prop} {l0:List Oper} {l':List (Nat × Value)}
theorem wa (S:StD ds N a l) (m:Nat) (k:∀ a',StD ds N a' l' → wpList Try.prog ops Q (l0.drop m) a' w) (h:a_H tys ops N (l0.take m) l = some l':=by kernel_rfl):wpList Try.prog ops Q l0 a w:=b_y S tys tys_ok m h k
theorem wb (S:StD ds N a l) (m:Nat) (ks:List Nat) (k:∀ a',StD ds N a' l' → wpList Try.prog ops Q (l0.drop m) a' w) (h:(a_H tys ops N (l0.take m) l).map (fun q=>q.filter fun p=>ks.contains p.1) = some l':=by kernel_rfl):wpList Try.prog ops Q l0 a w:=c_w S tys tys_ok m ks h k
theorem wd (S:StD ds N a l) (m:Nat) (k:∀ a',StD ds N a' l' → LI r Try.prog ops Q (l0.drop m) a' w) (h:a_H tys ops N (l0.take m) l = some l':=by kernel_rfl):LI r Try.prog ops Q l0 a w:=R.b_y S tys tys_ok m h k
theorem we (S:StD ds N a l) (m:Nat) (ks:List Nat) (k:∀ a',StD ds N a' l' → LI r Try.prog ops Q (l0.drop m) a' w) (h:(a_H tys ops N (l0.take m) l).map (fun q=>q.filter fun p=>ks.contains p.1) = some l':=by kernel_rfl):LI r Try.prog ops Q l0 a w:=R.c_w S tys tys_ok m ks h k
theorem wf (S:StD ds N a l) (m:Nat) (k:∀ a',StD ds N a' l' → Ro.RL Try.prog ops (l0.drop m) K w a' w) (h:a_H tys ops N (l0.take m) l = some l':=by kernel_rfl):Ro.RL Try.prog ops l0 K w a w:=Ro.b_y S tys tys_ok m h k
theorem wg (S:StD ds N a l) (m:Nat) (ks:List Nat) (k:∀ a',StD ds N a' l' → Ro.RL Try.prog ops (l0.drop m) K w a' w) (h:(a_H tys ops N (l0.take m) l).map (fun q=>q.filter fun p=>ks.contains p.1) = some l':=by kernel_rfl):Ro.RL Try.prog ops l0 K w a w:=Ro.c_w S tys tys_ok m ks h k
end
end Go.Proofs.Ytfelbalkobcfhaa
