/- The rules of the walk over plain data, more: a region that draws its order, walked in each order that matters: operations that compute come first. Plain theorems, no condition. -/
import Derived.Test.YtfelbalkobcfhaaXE33
set_option linter.unusedVariables false
set_option linter.unusedSimpArgs false
namespace Go.Proofs.Ytfelbalkobcfhaa
open Go.RowKit
def a_U (m:Nat):List Nat → Array Bool
  | []=>Array.replicate m false
  | i :: D=>(a_U m D).setIfInBounds i true
def An (P:Program) (l:List Oper) (Q:Exit → Act → World → Prop) (m k:Nat) (D:List Nat) (a:Act) (w:World):Prop:=wpAny P .any l.toArray Q k (a_U m D) a w
def e_G (P:Program) (l:List Oper) (Q:Exit → Act → World → Prop) (m k:Nat) (D:List Nat) (a:Act) (w:World) (i:Nat):Prop:=wpOp P l.toArray Q i (fun a' w'=>An P l Q m k (i :: D) a' w') a w
def AnForks (P:Program) (l:List Oper) (Q:Exit → Act → World → Prop) (m k:Nat) (D:List Nat) (a:Act) (w:World):List Nat → Prop
  | []=>True
  | i :: is=>e_G P l Q m k D a w i ∧ AnForks P l Q m k D a w is
theorem AnForks.get {P:Program} {l:List Oper} {Q:Exit → Act → World → Prop} {m k:Nat} {D:List Nat} {a:Act} {w:World}:∀ {is:List Nat},AnForks P l Q m k D a w is → ∀ i ∈ is,e_G P l Q m k D a w i
  | j :: is,h,i,hi=>by
    rcases List.mem_cons.1 hi with rfl | hi
    · exact h.1
    · exact AnForks.get h.2 i hi
def PanicOk (Q:Exit → Act → World → Prop):Prop:=∀ c (a a':Act) w,a.defers = a'.defers → Q (.panic c) a w → Q (.panic c) a' w
theorem PanicOk.put {Q:Exit → Act → World → Prop} (h:PanicOk Q):∀ c d v a w,Q (.panic c) (a.put d v) w → Q (.panic c) a w:=fun c d v a w=>h c _ _ w (by cases d <;> rfl)
theorem d_K {P:Program} {fn:Func} {R:Ending → World → Prop}:PanicOk (bodyPost P fn R):=fun _ _ _ _ hd h=>⟨hd ▸ h.1,h.2⟩
theorem d_L {K:Act → World → Prop} {Q:Exit → Act → World → Prop} (h:PanicOk Q):PanicOk (Exit.then K Q):=fun c a a' w hd hq=>h c a a' w hd hq
theorem e_H {id:Nat} {Q:Exit → Act → World → Prop} (h:PanicOk Q):PanicOk (Exit.inBlock id Q):=fun c a a' w hd hq=>h c a a' w hd hq
def c_4 (l:List Oper) (m:Nat):List Nat → List Nat → Bool
  | _,[]=>true
  | D,i :: is=>Region.free .any l.toArray (a_U m D) i && (Region.ready .any l.toArray (a_U m D)).contains i && c_4 l m (i :: D) is
section
variable {ds:List Deferred} {N:Nat} {a:Act} {l0 l1:List (Nat × Value)} {w:World} {P:Program} {l:List Oper} {Q:Exit → Act → World → Prop} {o:Oper} {m k i:Nat} {D:List Nat}
theorem c_f {id:Nat} (m:Nat) (hm:P.follows .mixedOrders = true) (hl:l.length = m) (hQ:PanicOk Q) (h:∀ w',Below w.heap.size w w' → PanicOk Q → An P l Q m m [] a w'):(Code.region id l.toArray true).wp P Q a w:=by
  subst hl
  refine wp_region_any hm ?_
  have:=h { w with drawn:=w.drawn + 1 } ⟨rfl,rfl,rfl,Nat.le_refl _,fun _ _=>rfl⟩ hQ
  simpa [An,a_U] using this
theorem b_F (hr:Region.ready .any l.toArray (a_U m D) = []) (h:Q .normal a w):An P l Q m k D a w:=by
  unfold An
  cases k with
  | zero=>exact ⟨hr,h⟩
  | succ k=>exact ⟨fun _=>h,fun i hi=>by rw [hr] at hi;cases hi⟩
theorem b_r {is:List Nat} (hr:Region.ready .any l.toArray (a_U m D) = is) (hne:is.isEmpty = false) (h:AnForks P l Q m k D a w is):An P l Q m (k + 1) D a w:=by
  unfold An
  refine ⟨fun he=>?_,fun i hi=>?_⟩
  · rw [hr] at he;subst he;cases hne
  · rw [hr] at hi
    exact h.get i hi
theorem a_N (ho:l[i]? = some o) (S:StD ds N a l0) (hg:gOk l.toArray l0 o = some true) (h:o.wp P a w (fun a' w'=>An P l Q m k (i :: D) a' w') Q):e_G P l Q m k D a w i:=by
  unfold e_G wpOp
  have ho':l.toArray[i]? = some o:=by simpa using ho
  simp only [ho']
  rw [if_pos (gOk.wanted S hg)]
  exact .inl h
theorem a_I (hr:Region.ready .any l.toArray (a_U m D) = [i]) (ho:l[i]? = some o) (S:StD ds N a l0) (hg:gOk l.toArray l0 o = some true) (h:o.wp P a w (fun a' w'=>An P l Q m k (i :: D) a' w') Q):An P l Q m (k + 1) D a w :=
  b_r hr rfl ⟨a_N ho S hg h,trivial⟩
theorem c_M (tys:List (TypeId × GT)) (ht:tysOk P tys = true) (hs:Region.noSelect l.toArray = true) (hQ:PanicOk Q):∀ (is:List Nat) {D:List Nat} {a:Act} {l0:List (Nat × Value)},StD ds N a l0 → c_4 l m D is = true → a_L tys l.toArray N (is.filterMap (l[·]?)) l0 = some l1 → (∀ a',StD ds N a' l1 → An P l Q m k (is.reverse ++ D) a' w) → An P l Q m (k + is.length) D a w
  | [],D,a,l0,S,_,hp,h=>by
    simp only [List.filterMap_nil,a_L,Option.some.injEq] at hp
    subst hp
    exact h a S
  | i :: is,D,a,l0,S,hc,hp,h=>by
    simp only [c_4,Bool.and_eq_true] at hc
    obtain ⟨⟨hf,hr⟩,hc⟩:=hc
    have hi:i ∈ Region.ready .any l.toArray (a_U m D):=by simpa using hr
    obtain ⟨_,o,ho,_⟩:=mem_ready.1 hi
    have ho':l[i]? = some o:=by simpa using ho
    rw [List.filterMap_cons_some ho'] at hp
    have h':∀ a',StD ds N a' l1 → An P l Q m k (is.reverse ++ (i :: D)) a' w:=fun a' S'=>by
      have:=h a' S'
      simpa using this
    have fin:∀ (v:Value) (l2:List (Nat × Value)),Yields P l.toArray o v a → StD ds N (a.put o.dst v) l2 → a_L tys l.toArray N (is.filterMap (l[·]?)) l2 = some l1 → An P l Q m (k + (is.length + 1)) D a w:=fun v l2 hy S2 hp2 =>
      wpAny_first ho (Region.noSelect_spec hs) (fun c a w=>hQ.put c o.dst v a w) (k + is.length) (a_U m D) a w (Region.free_spec ho hf) hi hy (c_M tys ht hs hQ is S2 hc hp2 h')
    unfold a_L at hp
    split at hp
    · rename_i d hg hd
      split at hp
      · rename_i v hv
        split at hp
        · rename_i hN
          exact fin v _ (.inl ⟨gOk.wanted S hg,fun w=>e_t S o tys ht hv⟩) (by rw [hd];exact S.put (by simpa [Nat.blt_eq] using hN) v) hp
        · cases hp
      · cases hp
    · rename_i d hg hd
      split at hp
      · rename_i hN
        exact fin undef _ (.inr ⟨gOk.wanted S hg,rfl⟩) (by rw [hd];exact S.put (by simpa [Nat.blt_eq] using hN) undef) hp
      · cases hp
    · rename_i hg hd
      exact fin undef _ (.inr ⟨gOk.wanted S hg,rfl⟩) (by rw [hd];exact S) hp
    · cases hp
end
inductive DeadS {α:Type}:Sem α → Prop
  | prog (k:Program → Sem α):(∀ p,DeadS (k p)) → DeadS (.program k)
  | halt (h:Halt):DeadS (.halt h)
  | choose (q:Question) (k:Nat → Sem α):(∀ n,DeadS (k n)) → DeadS (.choose q k)
inductive WlS {α:Type}:Sem α → Prop
  | pure (a:α):WlS (.pure a)
  | prog (k:Program → Sem α):(∀ p,WlS (k p)) → WlS (.program k)
  | dead (m:Sem α):DeadS m → WlS m
theorem DeadS.bind {α β:Type} {m:Sem α} (h:DeadS m) (f:α → Sem β):DeadS (m >>= f):=by
  induction h with
  | prog k _ ih=>exact .prog _ ih
  | halt h=>exact .halt h
  | choose q k _ ih=>exact .choose q _ ih
theorem WlS.bind {α β:Type} {m:Sem α} {f:α → Sem β} (h:WlS m) (hf:∀ a,WlS (f a)):WlS (m >>= f):=by
  induction h with
  | pure a=>exact hf a
  | prog k _ ih=>exact .prog _ ih
  | dead m hd=>exact .dead _ (hd.bind f)
theorem DeadS.run {α:Type} {m:Sem α} (h:DeadS m) (P:Program):∀ w x w1,m.run P w ≠ .ok x w1:=by
  induction h with
  | prog k _ ih=>intro w x w1;exact ih P w x w1
  | halt h=>intro w x w1 e;cases e
  | choose q k _ ih =>
    intro w x w1 e
    simp only [Sem.run] at e
    split at e
    · exact ih _ _ _ _ e
    · exact ih _ _ _ _ e
theorem WlS.run {α:Type} {m:Sem α} (h:WlS m) (P:Program):∀ w w' x w1,m.run P w = .ok x w1 → w1 = w ∧ m.run P w' = .ok x w':=by
  induction h with
  | pure a=>intro w w' x w1 e;simp only [Sem.run,Result.ok.injEq] at e ⊢;exact ⟨e.2.symm,e.1,trivial⟩
  | prog k _ ih=>intro w w' x w1 e;exact ih P w w' x w1 e
  | dead m hd=>intro w w' x w1 e;exact absurd e (hd.run P w x w1)
theorem WlS.program:WlS Go.program:=.prog _ fun p=>.pure p
theorem DeadS.wbind {α β:Type} {m:Sem α} {f:α → Sem β} (h:WlS m) (hf:∀ a,DeadS (f a)):DeadS (m >>= f):=by
  induction h with
  | pure a=>exact hf a
  | prog k _ ih=>exact .prog _ ih
  | dead m hd=>exact hd.bind f
theorem DeadS.bounds {α:Type} (x y:Int) (s:Bool) (c:BoundsCode):DeadS (Go.runtimePanic (.bounds x y s c):Sem α):=by
  unfold Go.runtimePanic
  exact DeadS.wbind WlS.program fun p=>.halt _
theorem DeadS.boundsPanic {α:Type} (k:IntKind) (x y:Int) (c:BoundsCode):DeadS (Go.boundsPanic k x y c:Sem α):=by
  unfold Go.boundsPanic
  split
  · exact .choose _ _ fun n=>DeadS.bounds _ _ _ _
  · exact DeadS.bounds _ _ _ _
theorem WlS.typeInfo (t:TypeId):WlS (Go.typeInfo t):=by
  unfold Go.typeInfo
  refine WlS.bind WlS.program fun p=>?_
  split
  · exact .pure _
  · exact .dead _ (.halt _)
theorem WlS.underlying (t:TypeId):WlS (Go.underlying t):=by
  unfold Go.underlying
  refine WlS.bind WlS.program fun p=>?_
  split
  · exact .pure _
  · exact .dead _ (.halt _)
theorem WlS.sizeOf (t:TypeId):WlS (Go.sizeOf t):=WlS.bind (WlS.typeInfo t) fun _=>.pure _
theorem WlS.asIntOf (v:Value):WlS (Go.asIntOf v):=by
  unfold Go.asIntOf
  split
  · exact .pure _
  · exact .dead _ (.halt _)
  · exact .dead _ (.halt _)
theorem WlS.sliceBound (x:Value) (y:Nat) (c:BoundsCode):WlS (Instr.sliceBound x y c):=by
  unfold Instr.sliceBound
  refine WlS.bind (WlS.asIntOf x) fun p=>?_
  obtain ⟨k,i⟩:=p
  simp only
  split
  · exact .pure _
  · exact .dead _ (DeadS.boundsPanic _ _ _ _)
theorem DeadS.nilDeref {α:Type}:DeadS (Go.runtimePanic .nilDeref:Sem α):=by
  unfold Go.runtimePanic
  exact DeadS.wbind WlS.program fun p=>.halt _
theorem WlS.sureAddr (v:Value):WlS (Instr.sureAddr v):=by
  unfold Instr.sureAddr
  split
  · exact .pure _
  · exact .dead _ (.halt _)
theorem WlS.asAddr (v:Value):WlS (Go.asAddr v):=by
  unfold Go.asAddr
  split
  · exact .pure _
  · exact .dead _ DeadS.nilDeref
  · exact .dead _ (.halt _)
theorem WlS.sliceBounds (b:Bool) (len cap:Nat) (lo hi mx:Option Value):WlS (Instr.sliceBounds b len cap lo hi mx):=by
  unfold Instr.sliceBounds
  dsimp only
  repeat' (first | exact WlS.pure _ | exact WlS.dead _ (.halt _) | exact WlS.sliceBound _ _ _ | refine WlS.bind ?_ fun _=>?_ | split)
theorem WlS.slice (t:TypeId) (x:Value) (lo hi mx:Option Value):WlS (Instr.slice t x lo hi mx):=by
  unfold Instr.slice
  dsimp only
  repeat' (first | exact WlS.pure _ | exact WlS.dead _ (.halt _) | exact WlS.sliceBounds _ _ _ _ _ _ | exact WlS.underlying _ | exact WlS.sizeOf _ | exact WlS.asAddr _ | refine WlS.bind ?_ fun _=>?_ | split)
theorem WlS.sliceAt (t:TypeId) (x:Value) (lo hi mx:Option Value):WlS (Instr.sliceAt t x lo hi mx):=by
  unfold Instr.sliceAt
  dsimp only
  repeat' (first | exact WlS.pure _ | exact WlS.dead _ (.halt _) | exact WlS.slice _ _ _ _ _ | exact WlS.sliceBounds _ _ _ _ _ _ | exact WlS.underlying _ | exact WlS.sizeOf _ | exact WlS.sureAddr _ | refine WlS.bind ?_ fun _=>?_ | split)
theorem WlS.indexAt (t:TypeId) (x i:Value):WlS (Instr.indexAt t x i):=by
  unfold Instr.indexAt
  dsimp only
  repeat' (first | exact WlS.pure _ | exact WlS.dead _ (.halt _) | exact WlS.dead _ (DeadS.boundsPanic _ _ _ _) | exact WlS.asIntOf _ | exact WlS.underlying _ | exact WlS.sizeOf _ | exact WlS.sureAddr _ | refine WlS.bind ?_ fun _=>?_ | split)
def wlB:Op → Bool
  | .slice _ _ _ _ _=>true
  | .indexAddr _ _ _=>true
  | _=>false
theorem wlV {P:Program} {m:Sem Value} (h:WlS m) {w w1:World} {n:Next} (hr:(m >>= fun v=>(Pure.pure (Next.value v):Sem Next)).run P w = .ok n w1):w1 = w ∧ (∃ v,n = .value v) ∧ ∀ w',(m >>= fun v=>(Pure.pure (Next.value v):Sem Next)).run P w' = .ok n w':=by
  have hw:=WlS.bind h (f:=fun v=>(Pure.pure (Next.value v):Sem Next)) fun v=>.pure _
  refine ⟨(hw.run P w w n w1 hr).1,?_,fun w'=>(hw.run P w w' n w1 hr).2⟩
  rw [Sem.run_bind] at hr
  cases hq:m.run P w with
  | ok v w2 =>
    rw [hq] at hr
    exact ⟨v,by
      have:(Result.ok (Next.value v) w2:Result Next) = .ok n w1:=hr
      injection this with h1 _;exact h1.symm⟩
  | halt x w2=>rw [hq] at hr;cases hr
theorem wl_run {P:Program} {o:Oper} {ρ:Operand → Value} (h:wlB o.op = true) {w w1:World} {n:Next} (hr:(execOp ρ o).run P w = .ok n w1):w1 = w ∧ (∃ v,n = .value v) ∧ ∀ w',(execOp ρ o).run P w' = .ok n w':=by
  unfold execOp at hr ⊢
  cases hop:o.op <;> rw [hop] at h <;> first | (exfalso;simp [wlB] at h;done) | skip
  all_goals
    rw [hop] at hr
    simp only at hr ⊢
  · exact wlV (WlS.sliceAt _ _ _ _ _) hr
  · exact wlV (WlS.indexAt _ _ _) hr
section
variable {ds:List Deferred} {N:Nat} {a:Act} {l0 l1:List (Nat × Value)} {w:World} {P:Program} {l:List Oper} {Q:Exit → Act → World → Prop} {o:Oper} {m k i:Nat} {D:List Nat}
theorem an_first (hs:Region.noSelect l.toArray = true) (hQ:PanicOk Q) (hc:c_4 l m D [i] = true) (ho:l[i]? = some o) (hwl:wlB o.op = true) (S:StD ds N a l0) (hg:gOk l.toArray l0 o = some true)
    (h:o.wp P a w (fun a' w'=>w' = w → An P l Q m k (i :: D) a' w') (fun _ _ _=>False)):An P l Q m (k + 1) D a w:=by
  simp only [c_4,Bool.and_eq_true] at hc
  obtain ⟨⟨hf,hr⟩,_⟩:=hc
  have hi:i ∈ Region.ready .any l.toArray (a_U m D):=by simpa using hr
  have ho':l.toArray[i]? = some o:=by simpa using ho
  unfold Oper.wp at h
  cases hrun:(execOp a.eval o).run P w with
  | halt x w' =>
    rw [hrun] at h
    cases x <;> simp only [Oper.upon] at h
  | ok n w' =>
    obtain ⟨rfl,⟨v,rfl⟩,hall⟩:=wl_run hwl hrun
    rw [hrun] at h
    simp only [Oper.upon] at h
    exact wpAny_first ho' (Region.noSelect_spec hs) (fun c a w=>hQ.put c o.dst v a w) k (a_U m D) a w' (Region.free_spec ho' hf) hi (.inl ⟨gOk.wanted S hg,hall⟩) (h trivial)
end
end Go.Proofs.Ytfelbalkobcfhaa
