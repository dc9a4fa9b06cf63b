/- The rules of the walk over plain data, more: arrays that are built, appends to full slices, a scope, what is not nil. Plain theorems, no condition. -/
import Derived.Test.YtaekmgpcdgmlgaaXE25
import Derived.ArgAppend
import Derived.Scope
set_option linter.unusedVariables false
set_option linter.unusedSimpArgs false
namespace Go.Proofs.Ytaekmgpcdgmlgaa
open Go.RowKit

section
variable {ds:List Deferred} {N:Nat} {a:Act} {l:List (Nat × Value)} {w w0:World} {P:Program} {ops:Array Oper} {Q:Exit → Act → World → Prop} {rest:List Oper} {o:Oper} {Kont:Act → World → Prop} {d:Nat} {K:Nat → Prop} {n:Nat} {L:List (Option Nat)}
theorem op_build_arr (S:StD ds N a l) {T:TypeId} {parts:Array (Nat × Operand)} {m:Nat} {e:GT} {z0 x:List (PT e)} {vs:List Value} (z:Value) (ze:PT e) (ho:o.op = .build T parts) (ht:tie P (.arr m e) false T [] 0 = true) (hz:(P.info? T).bind (·.zero) = some z) (R:∀ w K,RepCs (.arr m e) w K z.cells.toList z0) (hd:o.dst = some d) (hN:Nat.blt d N = true)
    (hv:evs l (parts.toList.map (·.2)) = some vs) (ps:List (Nat × Value)) (hps:ps = (parts.toList.map (·.1)).zip vs) (hp:e.isPair = false) (F:FillsA m e w K ps z0 x) (k:∀ a' v,RepV (.arr m e) w K v x → StD ds N a' ((d,v) :: l) → Kont a' w):o.wp P a w Kont Q:=by
  obtain ⟨E,hE,hte⟩:=tie_arr ht
  obtain ⟨i,hi,hsz⟩:=tie_size ht
  obtain ⟨j,hj,hjs⟩:=tie_size hte
  have hz0:i.zero = some z:=by rw [hi] at hz;exact hz
  obtain ⟨cs',hfill,hrep⟩:=fillsA_ok ze ps z.cells.toList z0 x hp (R w K) F
  have hparts:(parts.map fun (p:Nat × Operand)=>(p.1,a.eval p.2)).toList = ps:=by
    rw [hps,← S.evs hv,Array.toList_map]
    induction parts.toList with
    | nil=>rfl
    | cons p r ih=>simp [ih]
  refine op_run S (v:=.agg cs'.toArray) hd hN ?_ fun a'=>k a' _ ⟨cs',hrep,rfl⟩
  have hpm:parts.map (fun (x:Nat × Operand)=>match x with | (i,x)=>(i,a.eval x)) = parts.map fun (p:Nat × Operand)=>(p.1,a.eval p.2):=rfl
  have hfill':Instr.fill (fun i=>some (i * e.sz,e.sz)) z.cells ps = some cs'.toArray:=by simpa using hfill
  simp only [execOp,ho,hpm,Instr.build,zeroValue,typeInfo,sizeOf,Sem.run_bind,run_program,hi,hj,hjs,Result.andThen_ok,Sem.run_pure,hz0,run_underlying hE,hparts,hfill']

end
end Go.Proofs.Ytaekmgpcdgmlgaa
