/- The rules of the walk over plain data, more: arrays of numbers held against each other. Plain theorems, no condition. -/
import Derived.Test.YtfelbalkobcfhaaXE40
set_option linter.unusedVariables false
set_option linter.unusedSimpArgs false
namespace Go.Proofs.Ytfelbalkobcfhaa
open Go.RowKit Go.ChangeShapes
theorem getD_idx {α:Type} {xs:List α} {i:Int} {y d:α} (h:idx xs i = some y):xs.getD i.toNat d = y:=by
  unfold idx at h
  split at h
  · rw [List.getD_eq_getElem?_getD,h];rfl
  · cases h
theorem d_9 {m:Nat} {k:IntKind} {w:World} {K:Nat → Prop} {cs:List Value} {xs:List Int} (h:RepCs (.arr m (.int k)) w K cs xs):xs.length = m ∧ cs = xs.map (Value.int k):=by
  obtain ⟨hx,css,rfl,hl,hr⟩:=h
  refine ⟨hx,?_⟩
  have e:css = xs.map fun x=>[Value.int k x]:=by
    refine List.ext_getElem? fun j=>?_
    rw [List.getElem?_map]
    cases hy:xs[j]? with
    | none=>rw [List.getElem?_eq_none_iff] at hy;rw [List.getElem?_eq_none (by omega)];rfl
    | some y =>
      have hj:j < css.length:=by have:=(List.getElem?_eq_some_iff.1 hy).1;omega
      rw [List.getElem?_eq_getElem hj]
      have:=(hr j _ y (List.getElem?_eq_getElem hj) hy).1
      rw [this];rfl
  rw [e]
  clear e hr hl hx
  induction xs with
  | nil=>rfl
  | cons x xs ih=>simp [ih]
theorem c_i:∀ (xs ys:List Int),xs.length = ys.length → ((List.range xs.length).all fun i=>xs.getD i 0 == ys.getD i 0) = decide (xs = ys)
  | [],[],_=>by simp
  | x :: xs,y :: ys,h=>by
    have ih:=c_i xs ys (by simpa using h)
    rw [List.length_cons,List.range_succ_eq_map,List.all_cons,List.all_map]
    simp only [List.getD_cons_zero,Function.comp_def,List.getD_cons_succ,ih]
    rw [Bool.eq_iff_iff]
    simp
  | [],_ :: _,h=>by simp at h
  | _ :: _,[],h=>by simp at h
section
variable {ds:List Deferred} {N:Nat} {a:Act} {l:List (Nat × Value)} {w w0:World} {P:Program} {ops:Array Oper} {Q:Exit → Act → World → Prop} {rest:List Oper} {o:Oper} {Kont:Act → World → Prop} {d:Nat} {K:Nat → Prop} {L:List (Option Nat)}
theorem c_H (d:Nat) (t e:TypeId) (n:Nat) (k:IntKind) (ht:P.underlying t = some (.array n e)) (he:P.underlying e = some (.int k)) (hsz:∀ w,(sizeOf e).run P w = .ok 1 w)
    (xs ys:List Int) (hx:xs.length = n) (hy:ys.length = n) :
    (Op.equalIn (d + 2) t (.agg (xs.map (Value.int k)).toArray) (.agg (ys.map (Value.int k)).toArray)).run P w = .ok (decide (xs = ys)) w:=by
  rw [← c_i xs ys (hx.trans hy.symm),hx,List.range_eq_range',Op.equalIn]
  simp only [Sem.run_bind,run_underlying ht,Result.andThen_ok,hsz,Std.Legacy.Range.forIn_eq_forIn_range',Std.Legacy.Range.size,Nat.sub_zero,Nat.add_sub_cancel,Nat.div_one]
  have hl:∀ i ∈ List.range' 0 n 1,i < n:=fun i hi=>by simpa using (List.mem_range'_1.1 hi).2
  generalize List.range' 0 n 1 = l at hl ⊢
  induction l with
  | nil=>simp
  | cons i l ih =>
    have hi:i < n:=hl i (by simp)
    have px:(part e (xs.map (Value.int k)).toArray (i * 1)).run P w = .ok (.int k (xs.getD i 0)) w:=by
      simp [part,isAgg,run_underlying he,List.getD,List.getElem?_eq_getElem (show i < xs.length by omega)]
    have py:(part e (ys.map (Value.int k)).toArray (i * 1)).run P w = .ok (.int k (ys.getD i 0)) w:=by
      simp [part,isAgg,run_underlying he,List.getD,List.getElem?_eq_getElem (show i < ys.length by omega)]
    have pe:(Op.equalIn (d + 1) e (.int k (xs.getD i 0)) (.int k (ys.getD i 0))).run P w = .ok (xs.getD i 0 == ys.getD i 0) w:=run_equalIn_int w d e k k _ _ he
    simp only [List.forIn_cons,Sem.run_bind,px,py,pe,Result.andThen_ok,List.all_cons]
    cases hb:(xs.getD i 0 == ys.getD i 0)
    · simp
    · simp only [Bool.not_true,Bool.false_eq_true,if_false,Sem.run_pure,Result.andThen_ok,Bool.true_and]
      exact ih fun j hj=>hl j (by simp [hj])
def arrB (P:Program) (T:TypeId):Bool:=!P.eqGuardType P.depth T
theorem arrI_run {T:TypeId} {m:Nat} {k:IntKind} {v1 v2:Value} {x y:List Int} {W:World} {K1 K2:Nat → Prop} (hb:arrB P T = true) (ht:tie P (.arr m (.int k)) false T [] 0 = true) (h1:RepV (.arr m (.int k)) W K1 v1 x) (h2:RepV (.arr m (.int k)) W K2 v2 y) :
    ∃ a b,v1 = .agg a ∧ v2 = .agg b ∧ P.eqGuardType P.depth T = false ∧ (Op.equalIn 10000 T (.agg a) (.agg b)).run P w = .ok (decide (x = y)) w:=by
  obtain ⟨c1,h1,rfl⟩:=h1
  obtain ⟨c2,h2,rfl⟩:=h2
  obtain ⟨l1,rfl⟩:=d_9 h1
  obtain ⟨l2,rfl⟩:=d_9 h2
  obtain ⟨E,hE,htE⟩:=b_8 ht
  obtain ⟨i,hi,hs⟩:=a_E htE
  have hu:=b_e htE
  have hsz:∀ w,(sizeOf E).run P w = .ok 1 w:=fun w=>by rw [run_sizeOf w hi,show P.cellsOf E = i.size by simp [Program.cellsOf,hi]];exact congrArg (fun q=>Result.ok q w) hs
  unfold arrB at hb
  exact ⟨_,_,rfl,rfl,by simpa using hb,c_H 9998 T E m k hE hu hsz x y l1 l2⟩
theorem d_a (S:StD ds N a l) {T T':TypeId} {x y:Operand} {q:Nat} {kd:IntKind} {K1 K2:Nat → Prop} {v1 v2:Value} {m n:List Int} (ho:o.op = .binOp .neq T x y T') (hd:o.dst = some d) (hN:Nat.blt d N = true)
    (hx:ev l x = some v1) (hy:ev l y = some v2) (ht:tie P (.arr q (.int kd)) false T [] 0 = true) (hb:arrB P T = true) (h1:RepV (.arr q (.int kd)) w K1 v1 m) (h2:RepV (.arr q (.int kd)) w K2 v2 n)
    (k:∀ a',StD ds N a' ((d,.bool (!decide (m = n))) :: l) → Kont a' w):o.wp P a w Kont Q:=by
  obtain ⟨a1,a2,rfl,rfl,hg,he⟩:=arrI_run (w:=w) hb ht h1 h2
  refine a_D S hd hN ?_ k
  simp [execOp,ho,S.eval hx,S.eval hy,run_eqGuard_agg w _ T _ _ _ _ hg,run_neq_struct,he]
end
end Go.Proofs.Ytfelbalkobcfhaa
