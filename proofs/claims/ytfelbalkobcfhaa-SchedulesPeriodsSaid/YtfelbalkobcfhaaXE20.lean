/- Regions that draw their order, and lay blocks of the call's own: a word beside the world says which are laid. Plain theorems, no condition. -/
import Derived.Test.YtfelbalkobcfhaaXE19
set_option linter.unusedVariables false
set_option linter.unusedSimpArgs false
namespace Go.Proofs.Ytfelbalkobcfhaa
open Go.RowKit
abbrev GW:=(Nat → Option (Option Nat)) × World
def d_C (ops:Array Oper) (F:Nat → Value → GW → Prop) (A:Act) (g:GW):List Edge → Prop
  | []=>True
  | e :: es=>(match (ops[e.on]?).bind (·.dst) with | some d=>∃ v,A.tmps[d]? = some v ∧ F e.on v g | none=>True) ∧ d_C ops F A g es
def waitsB (ops:Array Oper):Nat → Nat → Nat → Bool
  | 0,_,_=>false
  | n + 1,s,i=>match ops[s]? with | some o=>o.after.toList.any (fun e=>Region.binds .any e && (Nat.beq e.on i || waitsB ops n e.on i)) | none=>false
theorem waitsB.listed {ops:Array Oper} {listed:Array Bool} (hc:c_q ops listed) {i:Nat}:∀ (n s:Nat),waitsB ops n s i = true → listed.getD s false = true → listed.getD i false = true
  | 0,_,h,_=>by cases h
  | n + 1,s,h,hl=>by
    unfold waitsB at h
    cases hso:ops[s]? with
    | none=>rw [hso] at h;cases h
    | some p =>
      rw [hso] at h
      obtain ⟨e,he,hb⟩:=List.any_eq_true.1 h
      simp only [Bool.and_eq_true,Bool.or_eq_true] at hb
      have h1:=hc s p hl hso e (Array.mem_toList_iff.1 he) hb.1
      rcases hb.2 with h2 | h2
      · rw [Nat.eq_of_beq_eq_true h2] at h1;exact h1
      · exact waitsB.listed hc n e.on h2 h1
def d_D (D:List Nat) (R:GW → GW → Prop) (P:Program) (ops:Array Oper) (F:Nat → Value → GW → Prop) (a0:Act) (g0:GW) (Q:Exit → Act → World → Prop) (i:Nat) (o:Oper):Prop :=
  ∀ (A:Act) (g:GW),R g0 g → g.1 i = none → (∀ m s,waitsB ops m s i = true → g.1 s = none) → A.defers = a0.defers → A.tmps.size = a0.tmps.size → (∀ t,t ∉ D → A.tmps[t]? = a0.tmps[t]?) → d_C ops F A g (o.after.toList.filter (Region.binds .any)) →
    if Region.wanted o (yielded ops A.tmps) then o.wp P A g.2 (fun A' W'=>∃ v M',A' = A.put o.dst v ∧ (o.dst = none → v = undef) ∧ F i v (M',W') ∧ R g (M',W') ∧ ∀ j,j ≠ i → M' j = g.1 j) Q ∨ (o.asks P A g.2 ∧ LetsOut Q)
    else ∃ M',F i undef (M',g.2) ∧ R g (M',g.2) ∧ ∀ j,j ≠ i → M' j = g.1 j
def c_Y (F:Nat → Value → GW → Prop) (g:GW) (Q:Act → Prop):Nat → List Oper → Act → Prop
  | _,[],a=>Q a
  | i,o :: os,a=>match o.dst with
    | some _=>∀ v,F i v g → c_Y F g Q (i + 1) os (a.put o.dst v)
    | none=>F i undef g → c_Y F g Q (i + 1) os a
def FillDepsG (F:List (Value → GW → Prop)) (g:GW):List (Nat × Nat) → Act → (Act → Prop) → Prop
  | [],A,R=>R A
  | (i,d) :: ds,A,R=>∀ v,(F.getD i (fun _ _=>True)) v g → FillDepsG F g ds (A.put (some d) v) R
theorem FillDepsG.get {F:List (Value → GW → Prop)} {g:GW} {B:Act} {R:Act → Prop}:∀ (ds:List (Nat × Nat)) (A:Act),FillDepsG F g ds A R → (∀ p ∈ ds,(F.getD p.1 (fun _ _=>True)) (B.tmps.getD p.2 undef) g) → R (a_Z B ds A)
  | [],A,h,_=>h
  | (i,d) :: ds,A,h,hv=>FillDepsG.get ds _ (h _ (hv (i,d) (by simp))) fun p hp=>hv p (List.mem_cons_of_mem _ hp)
def RPostG (R:GW → GW → Prop) (i:Nat) (d:Option Nat) (f:Value → GW → Prop) (ds:List Deferred) (g:GW) (Q:Exit → Act → World → Prop):Exit → Act → World → Prop
  | .normal,a,w'=>∃ M',a.defers = ds ∧ f (a_8 d a) (M',w') ∧ R g (M',w') ∧ ∀ j,j ≠ i → M' j = g.1 j
  | .outgrown,a,w'=>Q .outgrown a w'
  | _,_,_=>False
def nthG:List (Value → GW → Prop) → Nat → Value → GW → Prop
  | [],_=>fun _ _=>True
  | f :: _,0=>f
  | _ :: fs,i + 1=>nthG fs i
theorem c_c:∀ (Fs:List (Value → GW → Prop)) (i:Nat),Fs.getD i (fun _ _=>True) = nthG Fs i
  | [],_=>rfl
  | f :: _,0=>rfl
  | _ :: fs,i + 1=>by rw [List.getD_cons_succ];exact c_c fs i
def FillEG (g:GW):List ((Value → GW → Prop) × Nat) → Act → (Act → Prop) → Prop
  | [],A,R=>R A
  | (f,d) :: ds,A,R=>∀ v,f v g → FillEG g ds (A.put (some d) v) R
theorem FillEG.deps {Fs:List (Value → GW → Prop)} {g:GW} {R:Act → Prop}:∀ (ds:List (Nat × Nat)) (A:Act),FillEG g (ds.map fun p=>(nthG Fs p.1,p.2)) A R → FillDepsG Fs g ds A R
  | [],_,h=>h
  | (i,d) :: ds,A,h=>fun v hv=>FillEG.deps ds _ (h v (by rw [← c_c];exact hv))
def RunAllG (R:GW → GW → Prop) (P:Program) (ops:Array Oper) (a0:Act) (g0:GW) (Q:Exit → Act → World → Prop) (Fs:List (Value → GW → Prop)):Nat → List Oper → List (List (Nat × Nat)) → Prop
  | _,[],_=>True
  | i,o :: os,ds :: D=>(∀ g,R g0 g → g.1 i = none → (∀ m s,waitsB ops m s i = true → g.1 s = none) → FillEG g (ds.map fun p=>(nthG Fs p.1,p.2)) a0 fun A=>wpList P ops (RPostG R i o.dst (nthG Fs i) a0.defers g Q) [o] A g.2) ∧ RunAllG R P ops a0 g0 Q Fs (i + 1) os D
  | _,_ :: _,[]=>False
theorem RunAllG.cons {R:GW → GW → Prop} {P:Program} {ops:Array Oper} {a0:Act} {g0:GW} {Q:Exit → Act → World → Prop} {Fs:List (Value → GW → Prop)} {i:Nat} {o:Oper} {os:List Oper} {ds:List (Nat × Nat)} {D:List (List (Nat × Nat))} (f:Value → GW → Prop) (es:List ((Value → GW → Prop) × Nat))
    (hf:nthG Fs i = f) (he:(ds.map fun p=>(nthG Fs p.1,p.2)) = es) (h:∀ M W,R g0 (M,W) → M i = none → (∀ m s,waitsB ops m s i = true → M s = none) → FillEG (M,W) es a0 fun A=>wpList P ops (RPostG R i o.dst f a0.defers (M,W) Q) [o] A W) (r:RunAllG R P ops a0 g0 Q Fs (i + 1) os D):RunAllG R P ops a0 g0 Q Fs i (o :: os) (ds :: D):=by
  subst hf
  subst he
  exact ⟨fun g hg hu hv=>h g.1 g.2 hg hu hv,r⟩
def EndEG (g:GW) (Q:Act → Prop):List (Value → GW → Prop) → List Oper → Act → Prop
  | f :: fs,o :: os,a=>match o.dst with
    | some d=>∀ v,f v g → EndEG g Q fs os (a.put (some d) v)
    | .none=>f undef g → EndEG g Q fs os a
  | _,_,a=>Q a
theorem EndEG.some_ {g:GW} {Q:Act → Prop} {f:Value → GW → Prop} {fs:List (Value → GW → Prop)} {o:Oper} {os:List Oper} {a:Act} {d:Nat} (hd:o.dst = some d) (h:∀ v,f v g → EndEG g Q fs os (a.put (some d) v)):EndEG g Q (f :: fs) (o :: os) a:=by
  unfold EndEG
  rw [hd]
  exact h
theorem EndEG.ok {g:GW} {Q:Act → Prop} (fs:List (Value → GW → Prop)):∀ (F:Nat → Value → GW → Prop) (k:Nat) (os:List Oper) (a:Act),fs.length = os.length → (∀ j,F (k + j) = nthG fs j) → EndEG g Q fs os a → c_Y F g Q k os a:=by
  induction fs with
  | nil =>
    intro F k os a hl _ h
    obtain rfl:os = []:=List.eq_nil_of_length_eq_zero (by simpa using hl.symm)
    exact h
  | cons f fs ih =>
    intro F k os a hl hF h
    cases os with
    | nil=>simp at hl
    | cons o os =>
      have hl':fs.length = os.length:=by simpa using hl
      have hF':∀ j,F (k + 1 + j) = nthG fs j:=fun j=>by have:=hF (j + 1);rw [← Nat.add_assoc,Nat.add_right_comm] at this;exact this
      have h0:F k = f:=hF 0
      unfold c_Y
      unfold EndEG at h
      cases hd:o.dst with
      | none=>rw [hd] at h;intro hf;rw [h0] at hf;exact ih F (k + 1) os a hl' hF' (h hf)
      | some d =>
        rw [hd] at h
        intro v hv
        rw [h0] at hv
        exact ih F (k + 1) os _ hl' hF' (h v hv)
theorem c_d {ds:List Deferred} {N:Nat} {l:List (Nat × Value)} {g:GW} {Q:Act → Prop} {a:Act} (S:StD ds N a l) (h:∀ a',StD ds N a' l → Q a'):EndEG g Q [] [] a:=h a S
theorem a_q {ds:List Deferred} {N:Nat} {l:List (Nat × Value)} {g:GW} {Q:Act → Prop} {a:Act} (S:StD ds N a l) (h:∀ a',StD ds N a' l → Q a'):FillEG g [] a Q:=h a S
structure RInvG (R:GW → GW → Prop) (ops:Array Oper) (n:Nat) (F:Nat → Value → GW → Prop) (a0:Act) (g0:GW) (listed:Array Bool) (a:Act) (g:GW):Prop where
  size:listed.size = ops.size
  tsize:a.tmps.size = a0.tmps.size
  defers:a.defers = a0.defers
  below:R g0 g
  keep:∀ t,(∀ (i:Nat) (o:Oper),i < n → ops[i]? = some o → o.dst ≠ some t) → a.tmps[t]? = a0.tmps[t]?
  done:∀ (i:Nat) (o:Oper) (d:Nat),listed.getD i false = true → ops[i]? = some o → o.dst = some d → ∃ v,a.tmps[d]? = some v ∧ F i v g
  doneN:∀ (i:Nat) (o:Oper),listed.getD i false = true → ops[i]? = some o → o.dst = none → F i undef g
  late:∀ i,n ≤ i → listed.getD i false = false
  closed:c_q ops listed
  free:∀ i,listed.getD i false = false → g.1 i = none
section
variable {R:GW → GW → Prop} {P:Program} {ops:Array Oper} {F:Nat → Value → GW → Prop} {a0:Act} {g0:GW} {Q:Exit → Act → World → Prop} {n:Nat}
theorem e_P {D:List Nat} {F:List (Value → GW → Prop)} {F':Nat → Value → GW → Prop} {o:Oper} {i:Nat} {ds:List (Nat × Nat)} {f:Value → GW → Prop} (hB:a_v ops a0.tmps.size = true) (hsel:Region.noSelect ops = true) (ho:ops[i]? = some o)
    (hd:d_W D ops o ds = true) (hF:∀ p ∈ ds,F' p.1 = F.getD p.1 (fun _ _=>True)) (hf:F' i = f)
    (h:∀ g,R g0 g → g.1 i = none → (∀ m s,waitsB ops m s i = true → g.1 s = none) → FillDepsG F g ds a0 fun A=>wpList P ops (RPostG R i o.dst f a0.defers g Q) [o] A g.2):d_D D R P ops F' a0 g0 Q i o:=by
  intro A g hW hun hwt_ hdf hsz hkeep hdeps
  simp only [d_W,Bool.and_eq_true,List.all_eq_true,beq_iff_eq] at hd
  obtain ⟨hd1,hd2⟩:=hd
  have dep:∀ (l:List Edge),d_C ops F' A g l → ∀ e ∈ l,∀ d,(ops[e.on]?).bind (·.dst) = some d → ∃ v,A.tmps[d]? = some v ∧ F' e.on v g:=by
    intro l
    induction l with
    | nil=>intro _ e he;cases he
    | cons x l ih =>
      intro hl e he d hed
      rcases List.mem_cons.1 he with rfl | h'
      · have:=hl.1
        rw [hed] at this
        exact this
      · exact ih hl.2 e h' d hed
  have hval:∀ p ∈ ds,(F.getD p.1 (fun _ _=>True)) (A.tmps.getD p.2 undef) g:=by
    intro p hp
    obtain ⟨h1,h2⟩:=hd1 p hp
    obtain ⟨e,he,h3⟩:=List.any_eq_true.1 h2
    simp only [Bool.and_eq_true,beq_iff_eq] at h3
    obtain ⟨v,hv,hFv⟩:=dep _ hdeps e (List.mem_filter.2 ⟨he,h3.1⟩) p.2 (by rw [h3.2];exact h1)
    rw [← hF p hp,← h3.2]
    simpa [hv] using hFv
  have hstep:=FillDepsG.get (B:=A) ds a0 (h g hW hun hwt_) hval
  generalize hA':a_Z A ds a0 = A' at hstep
  obtain ⟨g1,g2,g3,g4,g5⟩:=b_g A ds a0 hsz.symm
  rw [hA'] at g1 g2 g3 g4 g5
  have hlook:∀ t ∈ o.looksAt ops,A'.tmps[t]? = A.tmps[t]?:=by
    intro t ht
    have:=hd2 t ht
    by_cases hm:t ∈ D
    · simp only [List.contains_eq_mem,decide_eq_true hm,Bool.not_true,Bool.false_or,List.any_eq_true,beq_iff_eq] at this
      obtain ⟨p,hp,rfl⟩:=this
      exact g5 p hp
    · exact g4 t (hkeep t hm).symm
  have hw:=b_5 (ops:=ops) hlook
  have hop:∀ cs b,o.op ≠ .select cs b:=fun cs b=>Region.noSelect_spec hsel i o cs b ho
  have he:execOp A'.eval o = execOp A.eval o:=execOp_congr o hop fun x hx=>c_T fun t ht=>hlook t (List.mem_append_left _ (List.mem_filterMap.2 ⟨x,by simpa using hx,by simp [ht]⟩))
  have hdlt:∀ d,o.dst = some d → d < A'.tmps.size:=by
    intro d hod
    simp only [a_v,Bool.and_eq_true,decide_eq_true_eq,List.all_eq_true] at hB
    rw [g2,hsz]
    exact hB.1.2 d (a_T ho hod)
  have hslot:∀ v,a_8 o.dst (A'.put o.dst v) = match o.dst with | some _=>v | none=>undef:=by
    intro v
    cases hod:o.dst with
    | none=>rfl
    | some d=>simp [a_8,Act.put,hdlt d hod]
  have hout:LetsOut (RPostG R i o.dst f a0.defers g Q) → LetsOut Q:=fun ⟨a,w,h⟩=>⟨a,w,h⟩
  rw [hf]
  unfold wpList at hstep
  rw [hw] at hstep
  split
  · rename_i hwt
    rw [if_pos hwt] at hstep
    rcases hstep with hstep | ⟨hasks,hl⟩
    · refine .inl ?_
      unfold Oper.wp at hstep ⊢
      rw [he] at hstep
      have conv:∀ v w',RPostG R i o.dst f a0.defers g Q .normal (A'.put o.dst v) w' → ∃ u M',A.put o.dst v = A.put o.dst u ∧ (o.dst = none → u = undef) ∧ f u (M',w') ∧ R g (M',w') ∧ ∀ j,j ≠ i → M' j = g.1 j:=by
        intro v w' hr
        obtain ⟨M',_,h2,h3,h4⟩:=hr
        rw [hslot v] at h2
        cases hod:o.dst with
        | none=>rw [hod] at h2;exact ⟨undef,M',rfl,fun _=>rfl,h2,h3,h4⟩
        | some d=>rw [hod] at h2;exact ⟨v,M',rfl,(fun h=>by cases h),h2,h3,h4⟩
      generalize (execOp A.eval o).run P g.2 = r at *
      cases r with
      | ok n w' =>
        cases n <;> simp only [Oper.upon,wpList] at hstep ⊢
        case value u=>exact conv u w' hstep
        case skip=>exact conv undef w' hstep
        case defer d =>
          exfalso
          obtain ⟨_,h1,_⟩:=hstep
          cases hod:o.dst <;> simp [Act.put,hod,g1] at h1
        case enter fn args =>
          refine Calls.mono hstep fun e w'' h=>?_
          cases e with
          | returned u=>exact conv u w'' h
          | panicked c=>exact h.elim
          | outgrown=>exact hout h
        case row row args=>exact Rows.mono hstep fun u w'' h=>conv u w'' h
      | halt x w' =>
        cases x <;> simp only [Oper.upon] at hstep ⊢
        case panic u=>exact hstep.elim
    · refine .inr ⟨?_,hout hl⟩
      unfold Oper.asks at hasks ⊢
      rw [he] at hasks
      exact hasks
  · rename_i hwt
    rw [if_neg hwt] at hstep
    obtain ⟨M',_,h2,h3,h4⟩:=(show RPostG R i o.dst f a0.defers g Q .normal (A'.put o.dst undef) g.2 from hstep)
    rw [hslot undef] at h2
    refine ⟨M',?_,h3,h4⟩
    cases hod:o.dst <;> simpa [hod] using h2
theorem RInvG.step (hR0:∀ w,R w w) (hRt:∀ a b c,R a b → R b c → R a c) (hB:a_v ops a0.tmps.size = true) (hst:∀ i v w w',R w w' → F i v w → F i v w')
    {listed:Array Bool} {a:Act} {g:GW} {i:Nat} (hin:i < n) (hs:∀ o,ops[i]? = some o → d_D (a_P (ops.toList.take n).toArray) R P ops F a0 g0 Q i o) (h:RInvG R ops n F a0 g0 listed a g) (hi:i ∈ Region.ready .any ops listed) :
    wpOp P ops Q i (fun a' w'=>∃ M',RInvG R ops n F a0 g0 (listed.setIfInBounds i true) a' (M',w')) a g.2:=by
  obtain ⟨hun,o,ho,hall⟩:=mem_ready.1 hi
  simp only [a_v,Bool.and_eq_true,decide_eq_true_eq,List.all_eq_true] at hB
  obtain ⟨⟨hnd,hlt⟩,_⟩:=hB
  have hwaits:∀ m s,waitsB ops m s i = true → g.1 s = none:=by
    intro m s hs_
    refine h.free s ?_
    cases hl:listed.getD s false with
    | false=>rfl
    | true =>
      have:=waitsB.listed h.closed m s hs_ hl
      rw [(unlisted_lt hi).2] at this
      cases this
  have hstep:=hs o ho a g h.below (h.free i (unlisted_lt hi).2) hwaits h.defers h.tsize (fun t ht=>h.keep t fun i o hi ho hd=>ht (d_1 hi ho hd)) (by
    have:∀ l:List Edge,(∀ e ∈ l,e ∈ o.after ∧ Region.binds .any e = true) → d_C ops F a g l:=by
      intro l
      induction l with
      | nil=>intro _;trivial
      | cons e es ih =>
        intro hl
        refine ⟨?_,ih fun x hx=>hl x (List.mem_cons_of_mem _ hx)⟩
        obtain ⟨he,hb⟩:=hl e (by simp)
        have hd:=hall e he hb
        cases hoe:ops[e.on]? with
        | none=>trivial
        | some oe =>
          cases hde:oe.dst with
          | none=>simp [hde]
          | some d=>simpa [hde] using h.done e.on oe d hd hoe hde
    exact this _ fun e he=>by
      rw [List.mem_filter] at he
      exact ⟨Array.mem_toList_iff.1 he.1,he.2⟩)
  have fin:∀ v (g':GW),(o.dst = none → v = undef) → F i v g' → R g g' → (∀ j,j ≠ i → g'.1 j = g.1 j) → RInvG R ops n F a0 g0 (listed.setIfInBounds i true) (a.put o.dst v) g':=by
    intro v g' hnone hv hb hfr
    have tk:∀ t,o.dst ≠ some t → (a.put o.dst v).tmps[t]? = a.tmps[t]?:=by
      intro t hne
      cases hd:o.dst with
      | none=>rfl
      | some d =>
        have:d ≠ t:=fun e=>hne (by rw [hd,e])
        simp [Act.put,Array.getElem?_setIfInBounds_ne this]
    refine ⟨by simpa using h.size,?_,?_,hRt _ _ _ h.below hb,fun t ht=>?_,fun j p d hj hp hd=>?_,fun j p hj hp hd=>?_,fun j hj=>?_,fun j p hj hp e he hb=>?_,fun j hj=>?_⟩
    · cases hd:o.dst <;> simp [Act.put,h.tsize]
    · cases hd:o.dst <;> simp [Act.put,h.defers]
    · rw [tk t (ht i o hin ho),h.keep t ht]
    · by_cases hij:i = j
      · subst hij
        rw [ho] at hp
        obtain rfl:=Option.some.inj hp
        refine ⟨v,?_,hv⟩
        have:d < a.tmps.size:=by
          rw [h.tsize]
          exact hlt d (a_T ho hd)
        simp [Act.put,hd,this]
      · rw [show (listed.setIfInBounds i true).getD j false = listed.getD j false from getD_set_ne false hij] at hj
        obtain ⟨u,hu,hF⟩:=h.done j p d hj hp hd
        refine ⟨u,?_,hst _ _ _ _ hb hF⟩
        rw [tk d (fun e=>hij (b_J ops.toList hnd i j o p d (by simpa using ho) (by simpa using hp) e hd))]
        exact hu
    · by_cases hij:i = j
      · subst hij
        rw [ho] at hp
        obtain rfl:=Option.some.inj hp
        rw [← hnone hd]
        exact hv
      · rw [show (listed.setIfInBounds i true).getD j false = listed.getD j false from getD_set_ne false hij] at hj
        exact hst _ _ _ _ hb (h.doneN j p hj hp hd)
    · rw [show (listed.setIfInBounds i true).getD j false = listed.getD j false from getD_set_ne false (by omega)]
      exact h.late j hj
    · have keep:∀ m,listed.getD m false = true → (listed.setIfInBounds i true).getD m false = true:=fun m hm=>by
        by_cases him:i = m
        · subst him
          exact b_z (by
            rcases Nat.lt_or_ge i listed.size with h1 | h1
            · exact h1
            · simp [Array.getD_eq_getD_getElem?,Nat.not_lt.2 h1] at hm)
        · rw [show (listed.setIfInBounds i true).getD m false = listed.getD m false from getD_set_ne false him]
          exact hm
      refine keep _ ?_
      by_cases hij:i = j
      · subst hij
        rw [ho] at hp
        obtain rfl:=Option.some.inj hp
        exact hall e he hb
      · rw [show (listed.setIfInBounds i true).getD j false = listed.getD j false from getD_set_ne false hij] at hj
        exact h.closed j p hj hp e he hb
    · by_cases hij:i = j
      · subst hij
        rw [b_z (by have:=(unlisted_lt hi).1;exact this)] at hj
        cases hj
      · rw [show (listed.setIfInBounds i true).getD j false = listed.getD j false from getD_set_ne false hij] at hj
        rw [hfr j (fun e=>hij e.symm)]
        exact h.free j hj
  unfold wpOp
  simp only [ho]
  split
  · rename_i hw
    rw [if_pos hw] at hstep
    exact hstep.imp (Oper.wp_mono (fun a' w' ⟨v,M',e,hn,hv,hb,hfr⟩=>by subst e;exact ⟨M',fin v (M',w') hn hv hb hfr⟩)) id
  · rename_i hw
    rw [if_neg hw] at hstep
    obtain ⟨M',h1,h2,h3⟩:=hstep
    exact ⟨M',fin undef (M',g.2) (fun _=>rfl) h1 h2 h3⟩
theorem RInvG.finish (hB:a_v ops a0.tmps.size = true) {listed:Array Bool} {a:Act} {g:GW} (h:RInvG R ops n F a0 g0 listed a g) (hall:∀ i,i < n → i < ops.size → listed.getD i false = true)
    {K:Act → Prop} (hend:c_Y F g K 0 (ops.toList.take n) a0):K a:=by
  have hB':=hB
  simp only [a_v,Bool.and_eq_true,decide_eq_true_eq,List.all_eq_true] at hB'
  obtain ⟨⟨hnd,hlt⟩,_⟩:=hB'
  have key:∀ (l:List Oper) (k:Nat) (b:Act),(∀ j,l[j]? = (ops.toList.take n)[k + j]?) → b.tmps.size = a.tmps.size → b.defers = a.defers →
      (∀ t,(∀ (j:Nat) (o:Oper),l[j]? = some o → o.dst ≠ some t) → b.tmps[t]? = a.tmps[t]?) → c_Y F g K k l b → K a:=by
    intro l
    induction l with
    | nil =>
      intro k b _ hs hd ht he
      have:b = a:=by
        obtain ⟨bt,bd⟩:=b
        obtain ⟨at_,ad⟩:=a
        simp only at hd
        subst hd
        have:bt = at_:=Array.ext_getElem? fun t=>ht t (fun j o hj=>by simp at hj)
        rw [this]
      rw [← this]
      exact he
    | cons o l ih =>
      intro k b hl hs hd ht he
      have h00:(ops.toList.take n)[k]? = some o:=by simpa using (hl 0).symm
      have hkn:k < n:=by
        rcases Nat.lt_or_ge k n with h1 | h1
        · exact h1
        · rw [List.getElem?_take_eq_none h1] at h00;cases h00
      have h0:ops[k]? = some o:=by
        rw [List.getElem?_take_of_lt hkn] at h00
        simpa using h00
      have hl':∀ j,l[j]? = (ops.toList.take n)[k + 1 + j]?:=fun j=>by have:=hl (j + 1);rw [Nat.add_assoc,Nat.add_comm 1 j];exact this
      have hlk:listed.getD k false = true:=hall k hkn (by
        rcases Nat.lt_or_ge k ops.size with hk | hk
        · exact hk
        · rw [Array.getElem?_eq_none hk] at h0;cases h0)
      unfold c_Y at he
      cases hod:o.dst with
      | none =>
        rw [hod] at he
        have he:=he (h.doneN k o hlk h0 hod)
        exact ih (k + 1) b hl' hs hd (fun t hn=>ht t (fun j p hj=>by
          match j,hj with
          | 0,hj=>simp at hj;subst hj;simp [hod]
          | j + 1,hj=>exact hn j p (by simpa using hj))) he
      | some d =>
        rw [hod] at he
        obtain ⟨v,hv,hF⟩:=h.done k o d hlk h0 hod
        refine ih (k + 1) (b.put (some d) v) hl' (by simp [Act.put,hs]) (by simp [Act.put,hd]) (fun t hn=>?_) (he v hF)
        by_cases hdt:d = t
        · subst hdt
          have hlt':d < b.tmps.size:=by rw [hs,h.tsize];exact hlt d (a_T h0 hod)
          simp [Act.put,hlt',hv]
        · simp only [Act.put]
          rw [Array.getElem?_setIfInBounds_ne hdt]
          refine ht t (fun j p hj=>?_)
          match j,hj with
          | 0,hj=>simp at hj;subst hj;simpa [hod] using hdt
          | j + 1,hj=>exact hn j p (by simpa using hj)
  refine key (ops.toList.take n) 0 a0 (by simp) h.tsize.symm h.defers.symm (fun t hn=>(h.keep t (fun i o hi ho hd=>?_)).symm) hend
  exact hn i o (by rw [List.getElem?_take_of_lt hi];simpa using ho) hd
theorem RunAllG.get {E:List Nat} {Fs:List (Value → GW → Prop)} (hB:a_v ops a0.tmps.size = true) (hsel:Region.noSelect ops = true):∀ (l:List Oper) (k:Nat) (D:List (List (Nat × Nat))),
    (∀ j o,l[j]? = some o → ops[k + j]? = some o) → a_Q E ops l D = true → RunAllG R P ops a0 g0 Q Fs k l D → ∀ j o,l[j]? = some o → d_D E R P ops (fun i=>Fs.getD i (fun _ _=>True)) a0 g0 Q (k + j) o
  | [],_,_,_,_,_,j,o,h=>by simp at h
  | x :: l,k,[],_,_,h,_,_,_=>h.elim
  | x :: l,k,ds :: D,hl,hD,h,j,o,hj=>by
    simp only [a_Q,Bool.and_eq_true] at hD
    match j,hj with
    | 0,hj =>
      simp at hj
      subst hj
      exact e_P (F:=Fs) (f:=nthG Fs k) hB hsel (hl 0 _ (by simp)) hD.1 (fun p _=>rfl) (c_c Fs k) fun g hg hu hv=>FillEG.deps ds a0 (h.1 g hg hu hv)
    | j + 1,hj =>
      have:=RunAllG.get hB hsel l (k + 1) D (fun i p hp=>by have:=hl (i + 1) p (by simpa using hp);simpa [Nat.add_assoc,Nat.add_comm 1 i] using this) hD.2 h.2 j o (by simpa using hj)
      rwa [Nat.add_assoc,Nat.add_comm 1 j] at this
theorem c_y {K:Nat → Prop} {w0:World} {l:List Oper} (n:Nat) (nxt:List Nat) (hR0:∀ g,R g g) (hRt:∀ a b c,R a b → R b c → R a c) (hRd:R (fun _=>none,w0) (fun _=>none,{ w0 with drawn:=w0.drawn + 1 })) (Fs:List (Value → GW → Prop)) (D:List (List (Nat × Nat))) (hm:P.follows .mixedOrders = true) (hB:a_v l.toArray a0.tmps.size = true) (hsel:Region.noSelect l.toArray = true) (hsuf:sufB l.toArray n nxt = true)
    (hD:a_Q (a_P (l.take n).toArray) l.toArray (l.take n) D = true) (hlen:Fs.length = (l.take n).length) (hst:∀ f ∈ Fs,∀ v g g',R g g' → f v g → f v g') (h:RunAllG R P l.toArray a0 (fun _=>none,w0) Q Fs 0 (l.take n) D) (hend:∀ g,R (fun _=>none,w0) g → EndEG g (fun a=>wpList P l.toArray Q (l.drop n) a g.2) Fs (l.take n) a0):e_O P l Q a0 w0:=by
  unfold e_O
  have hst':∀ (i:Nat) v w w',R w w' → (fun i=>Fs.getD i (fun _ _=>True)) i v w → (fun i=>Fs.getD i (fun _ _=>True)) i v w':=by
    intro i v w w' hb hF
    simp only [List.getD_eq_getElem?_getD] at hF ⊢
    cases hi:Fs[i]? with
    | none=>trivial
    | some f=>rw [hi] at hF;exact hst f (List.mem_of_getElem? hi) v w w' hb hF
  have hs:∀ i o,i < n → l.toArray[i]? = some o → d_D (a_P (l.take n).toArray) R P l.toArray (fun i=>Fs.getD i (fun _ _=>True)) a0 (fun _=>none,w0) Q i o:=by
    intro i o hi ho
    have:=RunAllG.get hB hsel (l.take n) 0 D (fun j p hp=>by
      rcases Nat.lt_or_ge j n with h1 | h1
      · rw [List.getElem?_take_of_lt h1] at hp;simpa using hp
      · rw [List.getElem?_take_eq_none h1] at hp;cases hp) hD h i o (by rw [List.getElem?_take_of_lt hi];simpa using ho)
    rwa [Nat.zero_add] at this
  have hac:∀ (i:Nat) (o:Oper),l.toArray[i]? = some o → ∀ e ∈ o.after,Region.binds .any e = true → e.on < i:=by
    have hB':=hB
    simp only [a_v,Bool.and_eq_true,decide_eq_true_eq,List.all_eq_true] at hB'
    intro i o ho e he hb
    have:=hB'.2 (o,i) (by
      rw [List.mem_zipIdx_iff_getElem?]
      simpa using ho)
    simp only [Array.all_eq_true_iff_forall_mem] at this
    have:=this e he
    simpa [hb] using this
  have hfin:∀ {listed:Array Bool} {a:Act} {g:GW},RInvG R l.toArray n (fun i=>Fs.getD i (fun _ _=>True)) a0 (fun _=>none,w0) listed a g → (∀ i,i < n → i < l.toArray.size → listed.getD i false = true) → wpList P l.toArray Q (l.toArray.toList.drop n) a g.2:=by
    intro listed a g hi hall
    refine RInvG.finish hB hi hall (K:=fun a=>wpList P l.toArray Q (l.toArray.toList.drop n) a g.2) ?_
    exact EndEG.ok Fs _ 0 (l.take n) a0 hlen (fun j=>by rw [Nat.zero_add];exact c_c Fs j) (hend g hi.below)
  refine c_S (I:=fun listed a w=>(∃ M,RInvG R l.toArray n (fun i=>Fs.getD i (fun _ _=>True)) a0 (fun _=>none,w0) listed a (M,w)) ∨ ∃ k,n ≤ k ∧ listed.size = l.toArray.size ∧ (∀ i,listed.getD i false = true ↔ i < k ∧ i < l.toArray.size) ∧ wpList P l.toArray Q (l.toArray.toList.drop k) a w)
    (fun listed a w i hI hi=>?_) (fun listed a w hI hr=>?_) _ _ _ _ ?_ ?_
  · obtain ⟨hun,o,ho,hall⟩:=mem_ready.1 hi
    rcases hI with ⟨M,hI⟩ | ⟨k,hnk,hsz,hk,hw⟩
    · rcases Nat.lt_or_ge i n with hin | hin
      · exact wpOp_mono (fun a w h=>.inl h) (RInvG.step hR0 hRt hB hst' hin (fun o ho=>hs i o hin ho) hI hi)
      · have hbefore:∀ j,j < i → listed.getD j false = true:=fun j hj=>sufB.before hsuf hI.closed ho hin hall (i - j - 1) j (by omega)
        have hi_n:i = n:=by
          rcases Nat.lt_or_ge n i with h1 | h1
          · have:=hbefore n h1
            rw [hI.late n (Nat.le_refl n)] at this
            cases this
          · omega
        subst hi_n
        have hw:=hfin hI (fun j hj _=>hbefore j hj)
        refine wpOp_mono (fun a w h=>.inr ⟨i + 1,by omega,h⟩) (c_I hI.size (fun j=>⟨fun hj=>?_,fun hj=>hbefore j hj.1⟩) hw ho)
        constructor
        · rcases Nat.lt_or_ge j i with h1 | h1
          · exact h1
          · rw [hI.late j h1] at hj;cases hj
        · rcases Nat.lt_or_ge j l.toArray.size with h1 | h1
          · exact h1
          · have:listed.size ≤ j:=by rw [hI.size];exact h1
            simp [Array.getD_eq_getD_getElem?,Nat.not_lt.2 this] at hj
    · have hil:i < l.toArray.size:=by
        rcases Nat.lt_or_ge i l.toArray.size with h | h
        · exact h
        · rw [Array.getElem?_eq_none h] at ho;cases ho
      have hki:k ≤ i:=by
        rcases Nat.lt_or_ge i k with h1 | h1
        · have:=(hk i).2 ⟨h1,hil⟩
          rw [(unlisted_lt hi).2] at this
          cases this
        · exact h1
      have:i = k:=by
        rcases Nat.lt_or_ge k i with h1 | h1
        · have hcl:c_q l.toArray listed:=fun j p hj hp e he hb=>(hk _).2 (by
            have:=(hk j).1 hj
            have:=hac j p hp e he hb
            omega)
          have:=(hk k).1 (sufB.before hsuf hcl ho (by omega) hall (i - k - 1) k (by omega))
          omega
        · omega
      subst this
      exact wpOp_mono (fun a w h=>.inr ⟨i + 1,by omega,h⟩) (c_I hsz hk hw ho)
  · rcases hI with ⟨M,hI⟩ | ⟨k,hnk,hsz,hk,hw⟩
    · have hall:=b_t hI.size hac hr
      have hw:=hfin hI (fun i _ hi=>hall i hi)
      have:l.toArray.toList.drop n = []:=by
        rw [List.drop_eq_nil_iff]
        rcases Nat.lt_or_ge n l.toArray.size with h1 | h1
        · have:=hall n h1
          rw [hI.late n (Nat.le_refl n)] at this
          cases this
        · simpa using h1
      rw [this] at hw
      exact hw
    · have hall:=b_t hsz hac hr
      have:l.toArray.toList.drop k = []:=by
        rw [List.drop_eq_nil_iff]
        rcases Nat.lt_or_ge k l.toArray.size with h1 | h1
        · have:=(hk k).1 (hall k h1)
          omega
        · simpa using h1
      rw [this] at hw
      exact hw
  · refine Nat.le_trans (List.length_filter_le _ _) (by simp)
  · have hf:∀ i,(Array.replicate l.toArray.size false).getD i false = false:=fun i=>by
      rcases Nat.lt_or_ge i l.length with hi | hi
      · simp [Array.getD_eq_getD_getElem?,hi]
      · simp [Array.getD_eq_getD_getElem?,Nat.not_lt.2 hi]
    refine .inl ⟨fun _=>none,by simp,rfl,rfl,hRd,fun _ _=>rfl,fun i o d hl=>?_,fun i o hl=>?_,fun i _=>hf i,fun i o hl=>?_,fun _ _=>rfl⟩
    · rw [hf i] at hl;cases hl
    · rw [hf i] at hl;cases hl
    · rw [hf i] at hl;cases hl
end
end Go.Proofs.Ytfelbalkobcfhaa
