/- The rules of the walk over plain data, more: sets: maps of numbers to true, alone or in a struct of one field. Plain theorems, no condition. -/
import Derived.Test.YtmcpcdmonglkjaaXE34
set_option linter.unusedVariables false
set_option linter.unusedSimpArgs false
namespace Go.Proofs.Ytmcpcdmonglkjaa
open Go.RowKit

/-- What a map's block holds: the numbers xs, in the order in which they came. -/
def SetObj (kd:IntKind) (o:Obj) (xs:List Int):Prop:=∃ es c,o = .map es c ∧ es.toList.map (fun e=>(e.key,e.val)) = xs.map fun x=>(.int kd x,.bool true)
def Mp (kd:IntKind) (w:World) (b:Nat) (xs:List Int):Prop:=∃ o,SetObj kd o xs ∧ Ox o w b
def insK (x:Int) (xs:List Int):List Int:=if x ∈ xs then xs else xs ++ [x]
section
variable {w0 w w' A B:World} {L L' LO P Q:List (Option Nat)} {K:Nat → Prop} {n b d i:Nat} {kd:IntKind} {v v':Value} {o:Option Nat} {xs:List Int}
theorem Mp.lt (h:Mp kd w b xs):b < w.heap.size:=by obtain ⟨o,_,h⟩:=h;exact h.lt
theorem Mp.step (h:Mp kd w b xs) (hb:Below w.heap.size w w'):Mp kd w' b xs:=by obtain ⟨o,hs,h⟩:=h;exact ⟨o,hs,h.step hb⟩
theorem Mp.box (h:Mp kd w b xs) (hb:NewB w w' i):Mp kd w' b xs:=h.step hb.below
theorem Mp.newO (h:Mp kd w b xs) (hN:NewO w w' o):Mp kd w' b xs:=h.step hN.below
theorem Mp.newW (h:Mp kd w b xs) (hN:Wd w w' P):Mp kd w' b xs:=h.step hN.below
theorem Mp.wrote (h:Mp kd w b xs) (hw:Wrote i w w') (hm:True) (hne:b ≠ i):Mp kd w' b xs:=by obtain ⟨o,hs,h⟩:=h;exact ⟨o,hs,h.wrote hw hm hne⟩
theorem Mp.apd (h:Mp kd w b xs) (W:Wd w0 w L) (ha:Apd w w' v v') (hi:L[i]? = some v.ownBlock) {j:Nat} (hj:L[j]? = some (some b)) (hji:j ≠ i):Mp kd w' b xs:=by obtain ⟨o,hs,h⟩:=h;exact ⟨o,hs,h.apd W ha hi hj hji⟩
theorem Mp.more (h:Mp kd w b xs):Mp kd w b xs:=h
theorem Mp.lessAt (h:Mp kd w b xs) (i:Nat):Mp kd w b xs:=h
theorem Mp.drop (h:Mp kd w b xs) (i:Nat):Mp kd w b xs:=h
theorem Mp.nc (h:Mp kd A b xs) (hn:Nc d A B) (hb:b ≠ d):Mp kd B b xs:=by obtain ⟨o,hs,h⟩:=h;exact ⟨o,hs,h.nc hn hb⟩
theorem Mp.mk_ {m:Nat} (h:Mp kd w b xs) (hm:Mk m L w w') (hb:some b ∈ L):Mp kd w' b xs:=by obtain ⟨o,hs,h⟩:=h;exact ⟨o,hs,h.mk_ hm hb⟩
theorem Mp.gr {I:List Nat} {g g':GW} (h:Mp kd g.2 b xs) (hg:Gr w0 I L g g'):Mp kd g'.2 b xs:=by obtain ⟨o,hs,h⟩:=h;exact ⟨o,hs,h.gr hg⟩
theorem Mp.gs {I:List Nat} {s c:Nat} {F:GW → Prop} {g g':GW} (h:Mp kd g.2 c xs) (hg:Gs w0 I L s b F g g') (hne:c ≠ b):Mp kd g'.2 c xs:=by obtain ⟨o,hs,h⟩:=h;exact ⟨o,hs,h.gs hg hne⟩
theorem Mp.sto {t:GT} {T:TypeId} {g:Nat} {xn:PT t} {K':Nat → Prop} (h:Mp kd w b xs) (hs:Sto t T K' g xn w w') (hne:b ≠ g):Mp kd w' b xs:=by obtain ⟨o,hq,h⟩:=h;exact ⟨o,hq,h.sto hs hne⟩
theorem Mp.yst (Bs:List (Option Nat)) (h:Mp kd A b xs) (hy:Yst n A LO B L') (W:Wd w0 A (Bs ++ LO)) (hb:some b ∈ Bs):Mp kd B b xs:=by obtain ⟨o,hs,h⟩:=h;exact ⟨o,hs,h.yst Bs hy W hb⟩
theorem Mp.yfr (LO:List (Option Nat)) (h:Mp kd A b xs) (hy:Yst n A P B Q) (W:Wd w0 A (P ++ LO)) (hb:some b ∈ LO):Mp kd B b xs:=by obtain ⟨o,hs,h⟩:=h;exact ⟨o,hs,h.yfr LO hy W hb⟩
end

/-! ### A struct of one field that is a map of numbers -/
structure SetTy (P:Program) (T Tm Tk Tv:TypeId) (kd:IntKind):Prop where
  st:∃ fs f,P.underlying T = some (.struct fs) ∧ fs.toList = [f] ∧ f.type = Tm ∧ f.offset = 0
  inf:∃ i,P.info? T = some i ∧ i.size = 1 ∧ ∃ cs,i.zero = some (.agg cs) ∧ cs.toList = [.map none]
  infm:∃ i,P.info? Tm = some i ∧ i.size = 1
  mp:P.underlying Tm = some (.map Tk Tv)
  key:P.underlying Tk = some (.int kd)
  inv:∃ i,P.info? Tv = some i ∧ i.zero = some (.bool false)
def oneF (fs:List Field) (Tm:TypeId):Bool:=match fs with | [f]=>Nat.beq f.type Tm && Nat.beq f.offset 0 | _=>false
def nilM (z:Option Value):Bool:=match z with | some (.agg cs)=>(match cs.toList with | [.map none]=>true | _=>false) | _=>false
def isStr (d:Option TypeDesc) (Tm:TypeId):Bool:=match d with | some (.struct fs)=>oneF fs.toList Tm | _=>false
def isMp (d:Option TypeDesc) (Tk Tv:TypeId):Bool:=match d with | some (.map k v)=>Nat.beq k Tk && Nat.beq v Tv | _=>false
def isIn (d:Option TypeDesc) (kd:IntKind):Bool:=match d with | some (.int k)=>decide (k = kd) | _=>false
def fzB (z:Option Value):Bool:=match z with | some (.bool false)=>true | _=>false
def setTyB (P:Program) (T Tm Tk Tv:TypeId) (kd:IntKind):Bool :=
  isStr (P.underlying T) Tm && (P.info? T).any (fun i=>Nat.beq i.size 1 && nilM i.zero) && (P.info? Tm).any (fun i=>Nat.beq i.size 1) && isMp (P.underlying Tm) Tk Tv && isIn (P.underlying Tk) kd && (P.info? Tv).any (fun i=>fzB i.zero)
theorem anyS {α:Type} {x:Option α} {p:α → Bool} (h:x.any p = true):∃ y,x = some y ∧ p y = true:=by
  cases x with
  | none=>cases h
  | some y=>exact ⟨y,rfl,h⟩
theorem SetTy.of {P:Program} {T Tm Tk Tv:TypeId} {kd:IntKind} (h:setTyB P T Tm Tk Tv kd = true):SetTy P T Tm Tk Tv kd:=by
  simp only [setTyB,Bool.and_eq_true] at h
  obtain ⟨⟨⟨⟨⟨h1,h2⟩,h3⟩,h4⟩,h5⟩,h6⟩:=h
  refine ⟨?_,?_,?_,?_,?_,?_⟩
  · unfold isStr at h1
    split at h1
    · rename_i fs hu
      unfold oneF at h1
      split at h1
      · rename_i f hf
        simp only [Bool.and_eq_true,Nat.beq_eq] at h1
        exact ⟨fs,f,hu,hf,h1.1,h1.2⟩
      · cases h1
    · cases h1
  · obtain ⟨i,hi,h2⟩:=anyS h2
    simp only [Bool.and_eq_true,Nat.beq_eq] at h2
    refine ⟨i,hi,h2.1,?_⟩
    have h:=h2.2
    unfold nilM at h
    split at h
    · rename_i cs hz
      split at h
      · rename_i hc
        exact ⟨cs,hz,hc⟩
      · cases h
    · cases h
  · obtain ⟨i,hi,h3⟩:=anyS h3
    exact ⟨i,hi,by simpa [Nat.beq_eq] using h3⟩
  · unfold isMp at h4
    split at h4
    · rename_i k v hu
      simp only [Bool.and_eq_true,Nat.beq_eq] at h4
      rw [hu,h4.1,h4.2]
    · cases h4
  · unfold isIn at h5
    split at h5
    · rename_i k hu
      rw [hu,of_decide_eq_true h5]
    · cases h5
  · obtain ⟨i,hi,h6⟩:=anyS h6
    unfold fzB at h6
    split at h6
    · rename_i hz
      exact ⟨i,hi,hz⟩
    · cases h6
section
variable {ds:List Deferred} {N:Nat} {a:Act} {l:List (Nat × Value)} {w w0:World} {P:Program} {ops:Array Oper} {Q:Exit → Act → World → Prop} {rest:List Oper} {o:Oper} {Kont:Act → World → Prop} {d:Nat} {T Tm Tk Tv:TypeId} {kd:IntKind}
theorem arr_of_toList {α:Type} {xs:Array α} {l:List α} (h:xs.toList = l):xs = l.toArray:=by rw [← h]
/-- A variable for such a struct. -/
theorem op_alloc_set (S:StD ds N a l) (h:SetTy P T Tm Tk Tv kd) (ho:o.op = .alloc T) (hd:o.dst = some d) (hN:Nat.blt d N = true)
    (k:∀ a' w' b,NewB w w' b → Ox (.cells #[.map none] T (0,0)) w' b → StD ds N a' ((d,.pointer (some ⟨b,0,.none⟩)) :: l) → Kont a' w'):o.wp P a w Kont Q:=by
  obtain ⟨i,hi,hs,cs,hz,hc⟩:=h.inf
  refine op_run S (v:=.pointer (some ⟨w.heap.size,0,.none⟩)) (w':=w.alloc (.cells #[.map none] T)) hd hN ?_ fun a'=>k a' _ w.heap.size (newB_alloc w _) ⟨heap_alloc_new w _,trivial⟩
  rw [arr_of_toList hc] at hz
  simp [execOp,ho,Instr.alloc,zeroValue,typeInfo,hi,hz,newVar,newRow,Value.cells]
theorem op_box_set (S:StD ds N a l) {r:Option Nat} {x:Operand} (ho:o.op = .box T x) (hd:o.dst = some d) (hN:Nat.blt d N = true) (hx:ev l x = some (.agg #[.map r]))
    (k:∀ a' w' b,NewB w w' b → Ox (.cells #[.map r] T (0,0)) w' b → StD ds N a' ((d,.pointer (some ⟨b,0,.none⟩)) :: l) → Kont a' w'):o.wp P a w Kont Q:=by
  refine op_run S (v:=.pointer (some ⟨w.heap.size,0,.none⟩)) (w':=w.alloc (.cells #[.map r] T)) hd hN ?_ fun a'=>k a' _ w.heap.size (newB_alloc w _) ⟨heap_alloc_new w _,trivial⟩
  simp [execOp,ho,S.eval hx,Instr.box,newVar,newRow,Value.cells]
theorem op_makeMap (S:StD ds N a l) (ho:o.op = .makeMap Tm .none) (hd:o.dst = some d) (hN:Nat.blt d N = true)
    (k:∀ a' w' b,NewB w w' b → Mp kd w' b [] → StD ds N a' ((d,.map (some b)) :: l) → Kont a' w'):o.wp P a w Kont Q:=by
  refine op_run S (v:=.map (some w.heap.size)) (w':=w.alloc (.map #[] 0)) hd hN ?_ fun a'=>k a' _ w.heap.size (newB_alloc w _) ⟨_,⟨#[],0,rfl,rfl⟩,heap_alloc_new w _,trivial⟩
  simp [execOp,ho,Instr.makeMap,newObj]
  rfl
theorem op_build_set (S:StD ds N a l) (h:SetTy P T Tm Tk Tv kd) {r:Option Nat} {x:Operand} (ho:o.op = .build T #[(0,x)]) (hd:o.dst = some d) (hN:Nat.blt d N = true) (hx:ev l x = some (.map r))
    (k:∀ a',StD ds N a' ((d,.agg #[.map r]) :: l) → Kont a' w):o.wp P a w Kont Q:=by
  obtain ⟨i,hi,hs,cs,hz,hc⟩:=h.inf
  obtain ⟨fs,f,hu,hf,ht,hof⟩:=h.st
  obtain ⟨im,him,hsm⟩:=h.infm
  rw [arr_of_toList hc] at hz
  rw [arr_of_toList hf] at hu
  refine op_run S hd hN ?_ k
  simp [execOp,ho,S.eval hx,Instr.build,zeroValue,typeInfo,hi,hz,run_underlying hu,ht,hof,sizeOf,him,hsm,Instr.fill,Value.cells]
theorem op_load_set (S:StD ds N a l) (h:SetTy P T Tm Tk Tv kd) {ad:Operand} {r:Option Nat} {b:Nat} (ho:o.op = .load T ad) (hd:o.dst = some d) (hN:Nat.blt d N = true) (ha:ev l ad = some (.pointer (some ⟨b,0,.none⟩)))
    (hO:Ox (.cells #[.map r] T (0,0)) w b) (k:∀ a',StD ds N a' ((d,.agg #[.map r]) :: l) → Kont a' w):o.wp P a w Kont Q:=by
  obtain ⟨i,hi,hs,_⟩:=h.inf
  obtain ⟨fs,f,hu,_⟩:=h.st
  have hc:w.cell? ⟨b,0,.none⟩ = some (.map r):=by unfold World.cell?;rw [hO.1];rfl
  refine op_run S hd hN ?_ k
  simp [execOp,ho,S.eval ha,Instr.loadAt,Instr.sureAddr,loadVar,isAgg,run_underlying hu,sizeOf,typeInfo,hi,hs,hc,loadCells,loadCellsFrom,Addr.add]
theorem op_fa_set (S:StD ds N a l) (h:SetTy P T Tm Tk Tv kd) {x:Operand} {p:Addr} (ho:o.op = .fieldAddr T x 0) (hd:o.dst = some d) (hN:Nat.blt d N = true) (ha:ev l x = some (.pointer (some p)))
    (k:∀ a',StD ds N a' ((d,.pointer (some p)) :: l) → Kont a' w):o.wp P a w Kont Q:=by
  obtain ⟨fs,f,hu,hf,ht,hof⟩:=h.st
  obtain ⟨im,him,hsm⟩:=h.infm
  rw [arr_of_toList hf] at hu
  refine op_run S hd hN ?_ k
  simp [execOp,ho,S.eval ha,Instr.fieldAt,run_underlying hu,Instr.sureAddr,fieldPlace,sizeOf,typeInfo,ht,hof,him,hsm,Addr.add]
theorem op_loadm_set (S:StD ds N a l) (h:SetTy P T Tm Tk Tv kd) {ad:Operand} {r:Option Nat} {b:Nat} (ho:o.op = .load Tm ad) (hd:o.dst = some d) (hN:Nat.blt d N = true) (ha:ev l ad = some (.pointer (some ⟨b,0,.none⟩)))
    (hO:Ox (.cells #[.map r] T (0,0)) w b) (k:∀ a',StD ds N a' ((d,.map r) :: l) → Kont a' w):o.wp P a w Kont Q:=by
  have hc:w.cell? ⟨b,0,.none⟩ = some (.map r):=by unfold World.cell?;rw [hO.1];rfl
  refine op_run S hd hN ?_ k
  simp [execOp,ho,S.eval ha,Instr.loadAt,Instr.sureAddr,loadVar,isAgg,run_underlying h.mp,hc]
theorem op_store_set (S:StD ds N a l) (h:SetTy P T Tm Tk Tv kd) {ad x:Operand} {r r':Option Nat} {b:Nat} (ho:o.op = .store T ad x) (hd:o.dst = .none) (ha:ev l ad = some (.pointer (some ⟨b,0,.none⟩))) (hx:ev l x = some (.agg #[.map r]))
    (hO:Ox (.cells #[.map r'] T (0,0)) w b) (k:∀ w',Wrote b w w' → Ox (.cells #[.map r] T (0,0)) w' b → Kont a w'):o.wp P a w Kont Q:=by
  obtain ⟨i,hi,hs,_⟩:=h.inf
  have hc:w.cell? ⟨b,0,.none⟩ = some (.map r'):=by unfold World.cell?;rw [hO.1];rfl
  have hfz:w.frozen? ⟨b,0,.none⟩ = false:=by unfold World.frozen?;rw [hO.1];rfl
  have hst:(store ⟨b,0,.none⟩ (.map r)).run P w = .ok () (w.setCell ⟨b,0,.none⟩ (.map r)):=by
    show Sem.run P (.store .plain _ (.map r) (.pure ())) w = _
    simp [Sem.run,hc,hfz]
  have hrun:(execOp a.eval o).run P w = .ok .skip (w.setCell ⟨b,0,.none⟩ (.map r)):=by
    simp [execOp,ho,S.eval ha,S.eval hx,Instr.storeAt,Instr.sureAddr,storeVar,sizeOf,typeInfo,hi,hs,Value.cells,storeCells,Addr.add,hst]
  have hb:=hO.lt
  unfold Oper.wp
  rw [hrun]
  simp only [Oper.upon,hd]
  have hg:w.heap[b] = .cells #[.map r'] T (0,0):=by
    have:=hO.1
    rw [Array.getElem?_eq_getElem hb] at this
    exact Option.some.inj this
  refine k _ ⟨rfl,rfl,rfl,by simp [World.setCell],fun q hq=>?_⟩ ⟨?_,trivial⟩
  · simp [World.setCell,Array.getElem?_modify,Ne.symm hq]
  · simp [World.setCell,Array.getElem?_modify,hb,hg,Array.getElem_modify]
theorem findNow_set (kd:IntKind) (z:Int):∀ (es:List MapEntry) (xs:List Int) (i:Nat),es.map (fun e=>(e.key,e.val)) = xs.map (fun x=>(Value.int kd x,Value.bool true)) →
    (z ∈ xs ∧ ∃ j,i ≤ j ∧ Instr.findNow (.int kd) (.int kd z) es i = some (some (j,.bool true)) ∧ ∃ e,es[j - i]? = some e ∧ e.key = .int kd z ∧ e.val = .bool true) ∨ (z ∉ xs ∧ Instr.findNow (.int kd) (.int kd z) es i = some .none)
  | [],[],i,_=>.inr ⟨by simp,rfl⟩
  | [],x :: xs,i,h=>by simp at h
  | e :: es,[],i,h=>by simp at h
  | e :: es,x :: xs,i,h=>by
    simp only [List.map_cons,List.cons.injEq,Prod.mk.injEq] at h
    obtain ⟨⟨hk,hv⟩,h⟩:=h
    by_cases hz:z = x
    · subst hz
      refine .inl ⟨by simp,i,Nat.le_refl _,?_,e,by simp,hk,hv⟩
      simp [Instr.findNow,Instr.sameNow,hk,hv]
    · have hs:Instr.sameNow (.int kd) (.int kd z) e.key = some false:=by rw [hk];simp [Instr.sameNow,hz]
      have hf:Instr.findNow (.int kd) (.int kd z) (e :: es) i = Instr.findNow (.int kd) (.int kd z) es (i + 1):=by
        rw [Instr.findNow,hs]
      rcases findNow_set kd z es xs (i + 1) h with ⟨h1,j,hj,h2,e',h3,h4,h5⟩ | ⟨h1,h2⟩
      · refine .inl ⟨by simp [h1],j,by omega,hf.trans h2,e',?_,h4,h5⟩
        rw [show j - i = (j - (i + 1)) + 1 by omega]
        simpa using h3
      · exact .inr ⟨by simp [hz,h1],hf.trans h2⟩
theorem run_checkKey_set (e:Bool) (hk:P.underlying Tk = some (.int kd)) (z:Int):(Instr.checkKey e 10000 Tk (.int kd z)).run P w = .ok () w:=by
  show (Instr.checkKey e (9999 + 1) Tk (.int kd z)).run P w = _
  rw [Instr.checkKey]
  simp [run_underlying hk]
theorem op_lookup_set (S:StD ds N a l) (h:SetTy P T Tm Tk Tv kd) {x ix:Operand} {b:Nat} {z:Int} {xs:List Int} (ho:o.op = .lookup Tm x ix false) (hd:o.dst = some d) (hN:Nat.blt d N = true) (hx:ev l x = some (.map (some b))) (hi:ev l ix = some (.int kd z))
    (M:Mp kd w b xs) (k:∀ a',StD ds N a' ((d,.bool (decide (z ∈ xs))) :: l) → Kont a' w):o.wp P a w Kont Q:=by
  obtain ⟨ob,⟨es,c,rfl,hes⟩,hO⟩:=M
  obtain ⟨iv,hiv,hzv⟩:=h.inv
  have hg:(getObj b).run P w = .ok (.map es c) w:=by show Sem.run P (.getObj b .pure) w = _;simp [Sem.run,hO.1]
  refine op_run S hd hN ?_ k
  rcases findNow_set kd z es.toList xs 0 hes with ⟨h1,j,_,h2,_⟩ | ⟨h1,h2⟩
  · simp [execOp,ho,S.eval hx,S.eval hi,Instr.lookup,run_underlying h.mp,hg,run_checkKey_set _ h.key,Instr.findKey,run_underlying h.key,h2,h1]
  · simp [execOp,ho,S.eval hx,S.eval hi,Instr.lookup,run_underlying h.mp,hg,run_checkKey_set _ h.key,Instr.findKey,run_underlying h.key,h2,h1,zeroValue,typeInfo,hiv,hzv]
theorem op_mapUpdate_set (S:StD ds N a l) (h:SetTy P T Tm Tk Tv kd) {x ix y:Operand} {b:Nat} {z:Int} {xs:List Int} (ho:o.op = .mapUpdate Tm x ix y) (hd:o.dst = .none) (hx:ev l x = some (.map (some b))) (hi:ev l ix = some (.int kd z)) (hy:ev l y = some (.bool true))
    (M:Mp kd w b xs) (k:∀ w',Wrote b w w' → Mp kd w' b (insK z xs) → Kont a w'):o.wp P a w Kont Q:=by
  obtain ⟨ob,⟨es,c,rfl,hes⟩,hO⟩:=M
  have hb:=hO.lt
  have hg:(getObj b).run P w = .ok (.map es c) w:=by show Sem.run P (.getObj b .pure) w = _;simp [Sem.run,hO.1]
  have hset:∀ ob:Obj,(setObj b ob).run P w = .ok () { w with heap:=w.heap.setIfInBounds b ob }:=fun ob=>by show Sem.run P (.setObj b ob (.pure ())) w = _;simp [Sem.run,hO.1]
  have fin:∀ ob:Obj,SetObj kd ob (insK z xs) → (execOp a.eval o).run P w = .ok .skip { w with heap:=w.heap.setIfInBounds b ob } → o.wp P a w Kont Q:=fun ob hs hr=>by
    unfold Oper.wp
    rw [hr]
    simp only [Oper.upon,hd]
    refine k _ ⟨rfl,rfl,rfl,by simp,fun q hq=>by simp [Array.getElem?_setIfInBounds_ne (Ne.symm hq)]⟩ ⟨ob,hs,?_,trivial⟩
    simp [hb]
  rcases findNow_set kd z es.toList xs 0 hes with ⟨h1,j,_,h2,e,h3,h4,h5⟩ | ⟨h1,h2⟩
  · refine fin (.map (es.modify j fun e=>{ e with key:=.int kd z,val:=.bool true }) c) ⟨_,_,rfl,?_⟩ ?_
    · unfold insK
      rw [if_pos h1,← hes]
      refine List.ext_getElem? fun q=>?_
      simp only [List.getElem?_map,Array.getElem?_toList,Array.getElem?_modify]
      by_cases hq:j = q
      · subst hq
        have h3':es[j]? = some e:=by simpa using h3
        simp [h3',h4,h5]
      · simp [hq]
    · have h3':es[j]? = some e:=by simpa using h3
      simp [execOp,ho,S.eval hx,S.eval hi,S.eval hy,Instr.mapUpdate,run_underlying h.mp,hg,run_checkKey_set _ h.key,Instr.findKey,run_underlying h.key,h2,h3',h4,Instr.keyThatStays,Instr.sameBits,hset]
  · refine fin (.map (es.push { key:=.int kd z,val:=.bool true,born:=c }) (c + 1)) ⟨_,_,rfl,?_⟩ ?_
    · unfold insK
      rw [if_neg h1]
      simp [hes]
    · simp [execOp,ho,S.eval hx,S.eval hi,S.eval hy,Instr.mapUpdate,run_underlying h.mp,hg,run_checkKey_set _ h.key,Instr.findKey,run_underlying h.key,h2,hset]
theorem res_cell_set (S:StD ds N a l) (h:SetTy P T Tm Tk Tv kd) {s b:Nat} {r:Option Nat} (hl:lk l s = some (.pointer (some ⟨b,0,.none⟩))) (hO:Ox (.cells #[.map r] T (0,0)) w b):ResOk P a w (.cell s T) (.agg #[.map r]):=by
  obtain ⟨i,hi,hs,_⟩:=h.inf
  obtain ⟨fs,f,hu,_⟩:=h.st
  have hc:w.cell? ⟨b,0,.none⟩ = some (.map r):=by unfold World.cell?;rw [hO.1];rfl
  exact ⟨⟨b,0,.none⟩,by simp [S.at_ s _ hl],by simp [loadVar,isAgg,run_underlying hu,sizeOf,typeInfo,hi,hs,hc,loadCells,loadCellsFrom,Addr.add]⟩
end
end Go.Proofs.Ytmcpcdmonglkjaa
