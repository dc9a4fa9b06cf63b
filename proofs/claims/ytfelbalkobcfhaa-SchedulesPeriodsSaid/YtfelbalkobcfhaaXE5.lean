/- The rules of the walk over plain data, more: calls, the end, loops, blocks of the call's own. Plain theorems, no condition. -/
import Derived.Test.YtfelbalkobcfhaaXE4
set_option linter.unusedVariables false
set_option linter.unusedSimpArgs false
namespace Go.Proofs.Ytfelbalkobcfhaa
open Go.RowKit
theorem RepCs.one:∀ {t:GT} {w K cs} {x:PT t},RepCs t w K cs x → ∀ u ∈ cs,u.oneCell' = true
  | .int _,_,_,_,_,h=>by rw [h.1];simp [Value.oneCell']
  | .bool,_,_,_,_,h=>by
    have h:_ = _:=h
    rw [h];simp [Value.oneCell']
  | .str,_,_,_,_,h=>by rw [h.1];simp [Value.oneCell']
  | .sl _,_,_,_,_,⟨_,_,_,h,_⟩=>by rw [h];simp [Value.oneCell']
  | .st f,_,_,_,_,h=>RepCs.one (t:=f) h
  | .pair a b,_,_,_,_,⟨_,_,h,h1,h2⟩=>by
    intro u hu
    rw [h] at hu
    rcases List.mem_append.1 hu with hu | hu
    · exact RepCs.one h1 u hu
    · exact RepCs.one h2 u hu
  | .arr n e,w,K,_,x,⟨hx,css,h,hl,hr⟩=>by
    intro u hu
    rw [h] at hu
    obtain ⟨c,hc,hu⟩:=List.mem_flatten.1 hu
    obtain ⟨j,hj⟩:=List.getElem?_of_mem hc
    have hjl:j < x.length:=by have:=(List.getElem?_eq_some_iff.1 hj).1;omega
    exact RepCs.one (hr j c _ hj (List.getElem?_eq_getElem hjl)) u hu
  | .raw,_,_,_,_,h=>by obtain ⟨h,A,n,c,h2⟩:=h;rw [h,h2];simp [Value.oneCell']
def Ln (t t':GT) (off:Nat) (get:PT t → PT t') (set:PT t' → PT t → PT t):Prop :=
  ∀ w K cs x,RepCs t w K cs x → ∃ c1 c c2,cs = c1 ++ c ++ c2 ∧ c1.length = off ∧ RepCs t' w K c (get x) ∧ ∀ cn y,RepCs t' w K cn y → RepCs t w K (c1 ++ cn ++ c2) (set y x)
theorem Ln.whole {t:GT}:Ln t t 0 id (fun y _=>y):=fun w K cs x h=>⟨[],cs,[],by simp,rfl,h,fun cn y hy=>by simpa using hy⟩
theorem Ln.st {f t':GT} {off:Nat} {get set} (h:Ln f t' off get set):Ln (.st f) t' off get set:=h
theorem Ln.comp:∀ {t:GT} (k:Nat),Ln t (comp t k) (a_3 t k) (proj t k) (upd t k)
  | .pair a b,0=>fun w K cs x ⟨c1,c2,h,h1,h2⟩=>⟨[],c1,c2,by simpa using h,rfl,h1,fun cn y hy=>⟨cn,c2,by simp,hy,h2⟩⟩
  | .pair a b,k + 1=>fun w K cs x ⟨c1,c2,h,h1,h2⟩=>by
    obtain ⟨d1,d,d2,e,el,er,es⟩:=Ln.comp (t:=b) k w K c2 x.2 h2
    refine ⟨c1 ++ d1,d,d2,by rw [h,e];simp,by rw [List.length_append,h1.len,el],er,fun cn y hy=>?_⟩
    exact ⟨c1,d1 ++ cn ++ d2,by simp,h1,es cn y hy⟩
  | .int _,_=>Ln.whole
  | .bool,_=>Ln.whole
  | .str,_=>Ln.whole
  | .sl _,_=>Ln.whole
  | .st _,_=>Ln.whole
  | .arr _ _,_=>Ln.whole
  | .raw,_=>Ln.whole
theorem Ln.trans {t t' t'':GT} {o1 o2:Nat} {g1:PT t → PT t'} {s1 g2 s2} (h1:Ln t t' o1 g1 s1) (h2:Ln t' t'' o2 g2 s2):Ln t t'' (o1 + o2) (fun x=>g2 (g1 x)) (fun y x=>s1 (s2 y (g1 x)) x):=by
  intro w K cs x h
  obtain ⟨c1,c,c2,e,el,er,es⟩:=h1 w K cs x h
  obtain ⟨d1,d,d2,e',el',er',es'⟩:=h2 w K c (g1 x) er
  refine ⟨c1 ++ d1,d,d2 ++ c2,by rw [e,e'];simp,by rw [List.length_append,el,el'],er',fun cn y hy=>?_⟩
  have:=es (d1 ++ cn ++ d2) _ (es' cn y hy)
  simpa using this
theorem wp_loop_n {P:Program} {c:Code} {Q:Exit → Act → World → Prop} {a:Act} {w:World} (I:Nat → Act → World → Prop) (n:Nat) (h0:I n a w)
    (round:∀ n a w,I n a w → ∃ m,n = m + 1 ∧ c.wp P (Exit.then (I m) Q) a w):(Code.loop c).wp P Q a w:=by
  refine wp_loop_ghost I n h0 fun n a w h=>?_
  obtain ⟨m,hm,hr⟩:=round n a w h
  refine wp_mono hr fun e a' w' he=>?_
  cases e with
  | normal=>exact ⟨m,by omega,he⟩
  | _=>exact he
def b_2:Nat → List Value → List (Nat × Value)
  | _,[]=>[]
  | i,v :: l=>(i,v) :: b_2 (i + 1) l
theorem e_I:∀ (l:List Value) (i j:Nat) (v:Value),lk (b_2 i l) j = some v → i ≤ j ∧ l[j - i]? = some v
  | [],i,j,v,h=>by simp [b_2,lk] at h
  | u :: l,i,j,v,h=>by
    unfold b_2 lk at h
    cases hb:Nat.beq i j with
    | true =>
      rw [hb] at h
      obtain rfl:=Nat.eq_of_beq_eq_true hb
      have:u = v:=by simpa using h
      exact ⟨Nat.le_refl _,by simp [this]⟩
    | false =>
      rw [hb] at h
      obtain ⟨h1,h2⟩:=e_I l (i + 1) j v h
      refine ⟨by omega,?_⟩
      rw [show j - i = (j - (i + 1)) + 1 from by omega]
      simpa using h2
theorem StD.enter (args:List Value) (N:Nat) (h:args.length ≤ N):St N { tmps:=args.toArray ++ Array.replicate (N - args.toArray.size) undef,defers:=[] } (b_2 0 args):=by
  refine ⟨by simp;omega,rfl,fun i v hi=>?_⟩
  obtain ⟨_,h2⟩:=e_I args 0 i v hi
  have hlt:=(List.getElem?_eq_some_iff.1 h2).1
  rw [Array.getElem?_append_left (by simpa using hlt)]
  simpa using h2
theorem enter {P:Program} {f:FuncId} {fn:Func} {c:Code} {args:List Value} {w:World} {R:Ending → World → Prop} (hf:P.funcs[f]? = some fn) (hb:fn.body = some c) (N:Nat) (hN:fn.ntmps = N) (hl:Nat.ble args.length N = true)
    (h:∀ a,St N a (b_2 0 args) → c.wp P (bodyPost P fn R) a w):Calls P f args.toArray w R:=by
  refine calls_of_wp hf hb ?_
  rw [hN]
  exact h _ (StD.enter args N (by simpa [Nat.ble_eq] using hl))
def evs (l:List (Nat × Value)):List Operand → Option (List Value)
  | []=>some []
  | x :: xs=>match ev l x,evs l xs with | some v,some vs=>some (v :: vs) | _,_=>.none
def a_z (P : Program) (f : FuncId) : Bool := match P.funcs[f]? with | some fn => !(fn.name == "runtime.NumGoroutine") && !fn.body.isNone | .none => false
section
variable {ds:List Deferred} {N:Nat} {a:Act} {l:List (Nat × Value)} {w w0:World} {P:Program} {ops:Array Oper} {Q:Exit → Act → World → Prop} {rest:List Oper} {o:Oper} {Kont:Act → World → Prop} {d:Nat} {K:Nat → Prop} {n:Nat} {L:List (Option Nat)}
theorem StD.evs (S:StD ds N a l):∀ {xs:List Operand} {vs:List Value},Go.Proofs.Ytfelbalkobcfhaa.evs l xs = some vs → xs.map a.eval = vs
  | [],vs,h=>by simp [Go.Proofs.Ytfelbalkobcfhaa.evs] at h;subst h;rfl
  | x :: xs,vs,h=>by
    unfold Go.Proofs.Ytfelbalkobcfhaa.evs at h
    split at h
    · rename_i v us hv hus
      obtain rfl:=Option.some.inj h
      rw [List.map_cons,S.eval hv,StD.evs S hus]
    · cases h
theorem b_S {f:FuncId} (hf:a_z P f = true) (args:Array Value):(callFunc f args).run P w = .ok (.enter f args) w:=by
  unfold a_z at hf
  split at hf
  · rename_i fn hfn
    simp only [Bool.and_eq_true,Bool.not_eq_true'] at hf
    have h1 : ¬ fn.name = "runtime.NumGoroutine" := by simpa using hf.1
    have h2:¬ fn.body = .none:=by intro e;rw [e] at hf;simp at hf
    simp [callFunc,hfn,h1,h2]
  · cases hf
theorem a_e (S:StD ds N a l) {f:FuncId} {xs:Array Operand} {ts:Array TypeId} (ho:o.op = .call { callee:=.value (.func f),args:=xs,argTypes:=ts }) (hf:a_z P f = true) (hd:o.dst = some d) (hN:Nat.blt d N = true)
    {vs:List Value} (hv:evs l xs.toList = some vs) {R:Ending → World → Prop} (h:Calls P f vs.toArray w R) (k:∀ e w',R e w' → ∃ v,e = .returned v ∧ ∀ a',StD ds N a' ((d,v) :: l) → Kont a' w'):o.wp P a w Kont Q:=by
  have hvs:xs.map a.eval = vs.toArray:=by
    rw [← S.evs hv,← Array.toList_map,Array.toArray_toList]
  have hr:(execOp a.eval o).run P w = .ok (.enter f vs.toArray) w:=by
    simp [execOp,ho,resolve,Act.eval,Deferred.ofValue,invoke,hvs,b_S hf]
  unfold Oper.wp
  rw [hr]
  simp only [Oper.upon]
  refine h.mono fun e w' he=>?_
  obtain ⟨v,rfl,hk⟩:=k e w' he
  simp only [hd]
  exact hk _ (S.put (by simpa [Nat.blt_eq] using hN) v)
theorem a_O (S:StD ds N a l) {f:FuncId} {x:Operand} {fi cap:Array Value} {xs:Array Operand} {ts:Array TypeId} (ho:o.op = .call { callee:=.value x,args:=xs,argTypes:=ts }) (hx:ev l x = some (.func (.func f) fi cap)) (hf:a_z P f = true) (hd:o.dst = some d) (hN:Nat.blt d N = true)
    {vs:List Value} (hv:evs l xs.toList = some vs) {R:Ending → World → Prop} (h:Calls P f (fi ++ vs.toArray ++ cap) w R) (k:∀ e w',R e w' → ∃ v,e = .returned v ∧ ∀ a',StD ds N a' ((d,v) :: l) → Kont a' w'):o.wp P a w Kont Q:=by
  have hvs:xs.map a.eval = vs.toArray:=by
    rw [← S.evs hv,← Array.toList_map,Array.toArray_toList]
  have hr:(execOp a.eval o).run P w = .ok (.enter f (fi ++ vs.toArray ++ cap)) w:=by
    simp [execOp,ho,resolve,S.eval hx,Deferred.ofValue,invoke,hvs,b_S hf]
  unfold Oper.wp
  rw [hr]
  simp only [Oper.upon]
  refine h.mono fun e w' he=>?_
  obtain ⟨v,rfl,hk⟩:=k e w' he
  simp only [hd]
  exact hk _ (S.put (by simpa [Nat.blt_eq] using hN) v)
theorem a_M (w:World) (ob:Obj):NewB w (w.alloc ob) w.heap.size:=⟨(Below.refl _ _).alloc (Nat.le_refl _) _,Nat.le_refl _,by simp⟩
theorem a_G (S:StD ds N a l) {T:TypeId} {x:Operand} {t:GT} {v:Value} {y:PT t} (ho:o.op = .box T x) (hp:t.isPair = false) (hd:o.dst = some d) (hN:Nat.blt d N = true) (hx:ev l x = some v) (R:RepV t w (Kx K n L) v y)
    (k:∀ a' w' b,NewB w w' b → Bx t T w' (Kx K n (some b :: L)) b y → StD ds N a' ((d,.pointer (some ⟨b,0,.none⟩)) :: l) → Kont a' w'):o.wp P a w Kont Q:=by
  refine a_D S (v:=.pointer (some ⟨w.heap.size,0,.none⟩)) (w':=w.alloc (.cells v.cells T)) hd hN ?_ fun a'=>k a' _ w.heap.size (a_M w _) ?_
  · simp [execOp,ho,S.eval hx,Instr.box,newVar,newRow]
  · refine ⟨v.cells.toList,by simpa using heap_alloc_new w _,?_⟩
    have hb:=a_M w (.cells v.cells T)
    exact (R.cells hp).keep (Keeps.below hb.below) fun c hc hk=>⟨hk.1,fun hm=>by
      rcases List.mem_cons.1 hm with e | hm
      · obtain rfl:=Option.some.inj e;omega
      · exact hk.2 hm⟩
theorem a_o (S:StD ds N a l) {T:TypeId} {t:GT} {y:PT t} (ho:o.op = .alloc T) (hd:o.dst = some d) (hN:Nat.blt d N = true) (z:Value) (hz:(P.info? T).bind (·.zero) = some z) (R:∀ w K,RepCs t w K z.cells.toList y)
    (k:∀ a' w' b,NewB w w' b → Bx t T w' (Kx K n (some b :: L)) b y → StD ds N a' ((d,.pointer (some ⟨b,0,.none⟩)) :: l) → Kont a' w'):o.wp P a w Kont Q:=by
  cases hi:P.info? T with
  | none=>rw [hi] at hz;cases hz
  | some i =>
    have hz':i.zero = some z:=by rw [hi] at hz;exact hz
    refine a_D S (v:=.pointer (some ⟨w.heap.size,0,.none⟩)) (w':=w.alloc (.cells z.cells T)) hd hN ?_ fun a'=>k a' _ w.heap.size (a_M w _) ⟨z.cells.toList,by simpa using heap_alloc_new w _,R _ _⟩
    simp [execOp,ho,Instr.alloc,zeroValue,typeInfo,hi,hz',newVar,newRow]
theorem b_T (w:World) (b:Nat) (cs:Array Value):Wrote b w (w.setRow b cs) :=
  ⟨rfl,rfl,rfl,by simp [World.setRow],fun k hk=>setRow_other w b k cs hk⟩
theorem d_b {T TB:TypeId} {t t':GT} {b off:Nat} {get:PT t → PT t'} {set:PT t' → PT t → PT t} {x:PT t} {y:PT t'} {v:Value} (ht:tie P t' false T [] 0 = true) (B:Bx t TB w (Kx K n L) b x) (hb:some b ∈ L) (hln:Ln t t' off get set) (R:RepV t' w (Kx K n L) v y) :
    ∃ w',(storeVar T ⟨b,off,.none⟩ v).run P w = .ok () w' ∧ Wrote b w w' ∧ Bx t TB w' (Kx K n L) b (set y x):=by
  obtain ⟨cs,hg,hcs⟩:=B
  obtain ⟨c1,c,c2,rfl,hoff,hc,hset⟩:=hln w _ cs x hcs
  obtain ⟨i,hi,hsz⟩:=a_E ht
  have hp:t'.isPair = false:=by cases t' <;> first | rfl | simp [tie] at ht
  have hv:=R.cells hp
  have hlen:v.cells.toList.length = c.length:=by rw [hv.len,hc.len]
  have hst:=run_storeCells_at (P:=P) b off TB v.cells.toList 0 (c1 ++ c ++ c2).toArray w hg (by simp at hlen ⊢;omega) (hv.one)
  refine ⟨w.setRow b ((c1 ++ c ++ c2).toArray.toList.take (off + 0) ++ v.cells.toList ++ (c1 ++ c ++ c2).toArray.toList.drop (off + 0 + v.cells.toList.length)).toArray,?_,b_T w b _,⟨c1 ++ v.cells.toList ++ c2,?_,?_⟩⟩
  · have:v.cells.size = i.size:=by rw [hsz,← hv.len];simp
    simp only [storeVar,sizeOf,typeInfo,Sem.run_bind,Sem.run_pure,Result.andThen_ok,run_program,hi,this,ne_eq,not_true_eq_false,if_false]
    exact hst
  · rw [setRow_heap w b _ _ TB _ hg]
    congr 2
    have h1:(c1 ++ c ++ c2).take (off + 0) = c1:=by rw [Nat.add_zero,← hoff,List.append_assoc];exact List.take_left
    have h2:(c1 ++ c ++ c2).drop (off + 0 + v.cells.toList.length) = c2:=by
      rw [hlen,Nat.add_zero,← hoff,← List.length_append];exact List.drop_left
    simp only [List.toList_toArray] at h1 h2 ⊢
    rw [h1,h2]
  · exact (hset _ y hv).keep (Keeps.wrote (b_T w b _) hb) fun _ _ h=>h
theorem a_g (S:StD ds N a l) {T TB:TypeId} {ad xo:Operand} {t t':GT} {b off:Nat} {get:PT t → PT t'} {set:PT t' → PT t → PT t} {x:PT t} {y:PT t'} {v:Value} {p:Addr} (ho:o.op = .store T ad xo) (hd:o.dst = .none) (ht:tie P t' false T [] 0 = true)
    (ha:ev l ad = some (.pointer (some p))) (hp:p = ⟨b,off,.none⟩) (hx:ev l xo = some v) (B:Bx t TB w (Kx K n L) b x) (hb:some b ∈ L) (hln:Ln t t' off get set) (R:RepV t' w (Kx K n L) v y)
    (k:∀ w',Wrote b w w' → Bx t TB w' (Kx K n L) b (set y x) → Kont a w'):o.wp P a w Kont Q:=by
  obtain ⟨w',hr,hw,hB⟩:=d_b (P:=P) ht B hb hln R
  subst hp
  have hrun:(execOp a.eval o).run P w = .ok .skip w':=by
    simp [execOp,ho,S.eval ha,S.eval hx,Instr.storeAt,Instr.sureAddr,hr]
  unfold Oper.wp
  rw [hrun]
  simp only [Oper.upon,hd]
  exact k w' hw hB
theorem a_a {K:Act → World → Prop} (h:K a w):Exit.then K Q .normal a w:=h
theorem a_n {K:Act → World → Prop} {id:Nat} (h:Q (.exit id) a w):Exit.then K Q (.exit id) a w:=h
theorem a_j {K:Act → World → Prop} (h:Q .ret a w):Exit.then K Q .ret a w:=h
theorem a_W {id:Nat} (h:Q .normal a w):Exit.inBlock id Q .normal a w:=h
theorem a_J {id:Nat} (h:Q .ret a w):Exit.inBlock id Q .ret a w:=h
theorem a_B {id:Nat} (h:Q .normal a w):Exit.inBlock id Q (.exit id) a w:=by simp only [Exit.inBlock,if_true];exact h
theorem b_1 {id id':Nat} (hne:Nat.beq id' id = false) (h:Q (.exit id') a w):Exit.inBlock id Q (.exit id') a w:=by
  have:¬ id' = id:=fun e=>by subst e;rw [Nat.beq_refl] at hne;cases hne
  simp only [Exit.inBlock,this,if_false];exact h
theorem a_c {α β:Type} {x:Option α} {f:α → Option β} {r:β} (h:x.bind f = some r):∃ y,x = some y ∧ f y = some r:=Option.bind_eq_some_iff.1 h
theorem a_k (S:St N a l) {fn:Func} {R:Ending → World → Prop} {s:Nat} {v:Value} (hr:fn.results = #[.tmp s]) (hv:lk l s = some v) (hR:R (.returned v) w):bodyPost P fn R .ret a w :=
  ⟨S.defers,v,by simp [results,hr,S.at_ s v hv],hR⟩
theorem c_B (S:St N a l) {fn:Func} {R:Ending → World → Prop} {s s':Nat} {v v':Value} (hr:fn.results = #[.tmp s,.tmp s']) (hv:lk l s = some v) (hv':lk l s' = some v') (hR:R (.returned (.tuple #[v,v'])) w):bodyPost P fn R .ret a w :=
  ⟨S.defers,_,by simp [results,hr,S.at_ s v hv,S.at_ s' v' hv'],hR⟩
end
end Go.Proofs.Ytfelbalkobcfhaa
