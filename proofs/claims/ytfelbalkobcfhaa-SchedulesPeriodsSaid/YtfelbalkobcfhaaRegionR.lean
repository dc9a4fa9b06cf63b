/- A region that draws its order, all of whose operations keep a relation R on worlds: what holds of each operation's value, whatever the order, is enough. As in Region; R is free. Plain theorems. -/
import Derived.Test.YtfelbalkobcfhaaRegion
set_option linter.unusedVariables false
namespace Go.Proofs.Ytfelbalkobcfhaa
open Go.RowKit
def c_U (D:List Nat) (R:World → World → Prop) (P:Program) (ops:Array Oper) (F:Nat → Value → World → Prop) (a0:Act) (w0:World) (Q:Exit → Act → World → Prop) (i:Nat) (o:Oper):Prop :=
  ∀ (A:Act) (W:World),R w0 W → A.defers = a0.defers → A.tmps.size = a0.tmps.size → (∀ t,t ∉ D → A.tmps[t]? = a0.tmps[t]?) → c_x ops F A W (o.after.toList.filter (Region.binds .any)) →
    if Region.wanted o (yielded ops A.tmps) then o.wp P A W (fun A' W'=>∃ v,A' = A.put o.dst v ∧ (o.dst = none → v = undef) ∧ F i v W' ∧ R W W') Q ∨ (o.asks P A W ∧ LetsOut Q) else F i undef W
abbrev e_j (R:World → World → Prop) (P:Program) (ops:Array Oper) (F:Nat → Value → World → Prop) (a0:Act) (w0:World) (Q:Exit → Act → World → Prop) (i:Nat) (o:Oper):Prop:=c_U (a_P ops) R P ops F a0 w0 Q i o
def d_W (D:List Nat) (ops:Array Oper) (o:Oper) (ds:List (Nat × Nat)):Bool :=
  (ds.all fun p=>((ops[p.1]?).bind (·.dst)) == some p.2 && o.after.toList.any fun e=>Region.binds .any e && e.on == p.1) &&
  ((o.looksAt ops).all fun t=>!D.contains t || ds.any (·.2 == t))
def a_Q (D:List Nat) (ops:Array Oper):List Oper → List (List (Nat × Nat)) → Bool
  | [],_=>true
  | o :: os,ds :: E=>d_W D ops o ds && a_Q D ops os E
  | _,_=>false
def StepsOkR (R:World → World → Prop) (P:Program) (ops:Array Oper) (F:Nat → Value → World → Prop) (a0:Act) (w0:World) (Q:Exit → Act → World → Prop):Nat → List Oper → Prop
  | _,[]=>True
  | i,o :: os=>e_j R P ops F a0 w0 Q i o ∧ StepsOkR R P ops F a0 w0 Q (i + 1) os
def b_u (F:Nat → Value → World → Prop) (W:World) (Q:Act → Prop):Nat → List Oper → Act → Prop
  | _,[],a=>Q a
  | i,o :: os,a=>match o.dst with
    | some _=>∀ v,F i v W → b_u F W Q (i + 1) os (a.put o.dst v)
    | none=>F i undef W → b_u F W Q (i + 1) os a
structure RInvR (R:World → World → Prop) (ops:Array Oper) (F:Nat → Value → World → Prop) (a0:Act) (w0:World) (listed:Array Bool) (a:Act) (w:World):Prop where
  size:listed.size = ops.size
  tsize:a.tmps.size = a0.tmps.size
  defers:a.defers = a0.defers
  below:R w0 w
  keep:∀ t,t ∉ a_P ops → a.tmps[t]? = a0.tmps[t]?
  done:∀ (i:Nat) (o:Oper) (d:Nat),listed.getD i false = true → ops[i]? = some o → o.dst = some d → ∃ v,a.tmps[d]? = some v ∧ F i v w
  doneN:∀ (i:Nat) (o:Oper),listed.getD i false = true → ops[i]? = some o → o.dst = none → F i undef w
section
variable {R:World → World → Prop} {P:Program} {ops:Array Oper} {F:Nat → Value → World → Prop} {a0:Act} {w0:World} {Q:Exit → Act → World → Prop}
theorem StepsOkR.get:∀ (l:List Oper) (k:Nat),StepsOkR R P ops F a0 w0 Q k l → ∀ j o,l[j]? = some o → e_j R P ops F a0 w0 Q (k + j) o
  | [],_,_,j,o,h=>by simp at h
  | x :: l,k,hs,0,o,h=>by simp at h;subst h;exact hs.1
  | x :: l,k,hs,j + 1,o,h=>by
    have:=StepsOkR.get l (k + 1) hs.2 j o (by simpa using h)
    rwa [Nat.add_assoc,Nat.add_comm 1 j] at this
theorem RInvR.step (hR0:∀ w,R w w) (hRt:∀ a b c,R a b → R b c → R a c) (hB:a_v ops a0.tmps.size = true) (hst:∀ i v w w',R w w' → F i v w → F i v w') (hs:StepsOkR R P ops F a0 w0 Q 0 ops.toList)
    {listed:Array Bool} {a:Act} {w:World} {i:Nat} (h:RInvR R ops F a0 w0 listed a w) (hi:i ∈ Region.ready .any ops listed) :
    wpOp P ops Q i (fun a' w'=>RInvR R ops F a0 w0 (listed.setIfInBounds i true) a' w') a w:=by
  obtain ⟨hun,o,ho,hall⟩:=mem_ready.1 hi
  simp only [a_v,Bool.and_eq_true,decide_eq_true_eq,List.all_eq_true] at hB
  obtain ⟨⟨hnd,hlt⟩,_⟩:=hB
  have hstep:=StepsOkR.get ops.toList 0 hs i o (by simpa using ho) a w h.below h.defers h.tsize h.keep (by
    have:∀ l:List Edge,(∀ e ∈ l,e ∈ o.after ∧ Region.binds .any e = true) → c_x ops F a w l:=by
      intro l
      induction l with
      | nil=>intro _;trivial
      | cons e es ih =>
        intro hl
        refine ⟨?_,ih fun x hx=>hl x (List.mem_cons_of_mem _ hx)⟩
        obtain ⟨he,hb⟩:=hl e (by simp)
        have hd:=hall e he hb
        cases hoe:ops[e.on]? with
        | none=>trivial
        | some oe =>
          cases hde:oe.dst with
          | none=>simp [hde]
          | some d=>simpa [hde] using h.done e.on oe d hd hoe hde
    exact this _ fun e he=>by
      rw [List.mem_filter] at he
      exact ⟨Array.mem_toList_iff.1 he.1,he.2⟩)
  rw [Nat.zero_add] at hstep
  have fin:∀ v w',(o.dst = none → v = undef) → F i v w' → R w w' → RInvR R ops F a0 w0 (listed.setIfInBounds i true) (a.put o.dst v) w':=by
    intro v w' hnone hv hb
    have tk:∀ t,o.dst ≠ some t → (a.put o.dst v).tmps[t]? = a.tmps[t]?:=by
      intro t hne
      cases hd:o.dst with
      | none=>rfl
      | some d =>
        have:d ≠ t:=fun e=>hne (by rw [hd,e])
        simp [Act.put,Array.getElem?_setIfInBounds_ne this]
    refine ⟨by simpa using h.size,?_,?_,hRt _ _ _ h.below hb,fun t ht=>?_,fun j p d hj hp hd=>?_,fun j p hj hp hd=>?_⟩
    · cases hd:o.dst <;> simp [Act.put,h.tsize]
    · cases hd:o.dst <;> simp [Act.put,h.defers]
    · rw [tk t (fun e=>ht (a_T ho e)),h.keep t ht]
    · by_cases hij:i = j
      · subst hij
        rw [ho] at hp
        obtain rfl:=Option.some.inj hp
        refine ⟨v,?_,hv⟩
        have:d < a.tmps.size:=by
          rw [h.tsize]
          exact hlt d (a_T ho hd)
        simp [Act.put,hd,this]
      · rw [show (listed.setIfInBounds i true).getD j false = listed.getD j false from getD_set_ne false hij] at hj
        obtain ⟨u,hu,hF⟩:=h.done j p d hj hp hd
        refine ⟨u,?_,hst _ _ _ _ hb hF⟩
        rw [tk d (fun e=>hij (b_J ops.toList hnd i j o p d (by simpa using ho) (by simpa using hp) e hd))]
        exact hu
    · by_cases hij:i = j
      · subst hij
        rw [ho] at hp
        obtain rfl:=Option.some.inj hp
        rw [← hnone hd]
        exact hv
      · rw [show (listed.setIfInBounds i true).getD j false = listed.getD j false from getD_set_ne false hij] at hj
        exact hst _ _ _ _ hb (h.doneN j p hj hp hd)
  unfold wpOp
  simp only [ho]
  split
  · rename_i hw
    rw [if_pos hw] at hstep
    exact hstep.imp (Oper.wp_mono (fun a' w' ⟨v,e,hn,hv,hb⟩=>by subst e;exact fin v w' hn hv hb)) id
  · rename_i hw
    rw [if_neg hw] at hstep
    exact fin undef w (fun _=>rfl) hstep (hR0 _)
theorem RInvR.finish (hB:a_v ops a0.tmps.size = true) {listed:Array Bool} {a:Act} {w:World} (h:RInvR R ops F a0 w0 listed a w) (hr:Region.ready .any ops listed = [])
    {K:Act → Prop} (hend:b_u F w K 0 ops.toList a0):K a:=by
  have hB':=hB
  simp only [a_v,Bool.and_eq_true,decide_eq_true_eq,List.all_eq_true] at hB'
  obtain ⟨⟨hnd,hlt⟩,hacB⟩:=hB'
  have hac:∀ (i:Nat) (o:Oper),ops[i]? = some o → ∀ e ∈ o.after,Region.binds .any e = true → e.on < i:=by
    intro i o ho e he hb
    have:=hacB (o,i) (by
      rw [List.mem_zipIdx_iff_getElem?]
      simpa using ho)
    simp only [Array.all_eq_true_iff_forall_mem] at this
    have:=this e he
    simpa [hb] using this
  have hall:=b_t h.size hac hr
  have key:∀ (l:List Oper) (k:Nat) (b:Act),(∀ j,l[j]? = ops.toList[k + j]?) → b.tmps.size = a.tmps.size → b.defers = a.defers →
      (∀ t,(∀ (j:Nat) (o:Oper),l[j]? = some o → o.dst ≠ some t) → b.tmps[t]? = a.tmps[t]?) → b_u F w K k l b → K a:=by
    intro l
    induction l with
    | nil =>
      intro k b _ hs hd ht he
      have:b = a:=by
        obtain ⟨bt,bd⟩:=b
        obtain ⟨at_,ad⟩:=a
        simp only at hd
        subst hd
        have:bt = at_:=Array.ext_getElem? fun t=>ht t (fun j o hj=>by simp at hj)
        rw [this]
      rw [← this]
      exact he
    | cons o l ih =>
      intro k b hl hs hd ht he
      have h0:ops[k]? = some o:=by simpa using (hl 0).symm
      have hl':∀ j,l[j]? = ops.toList[k + 1 + j]?:=fun j=>by have:=hl (j + 1);simpa [Nat.add_assoc,Nat.add_comm 1 j] using this
      unfold b_u at he
      cases hod:o.dst with
      | none =>
        rw [hod] at he
        have he:=he (h.doneN k o (hall k (by
          rcases Nat.lt_or_ge k ops.size with hk | hk
          · exact hk
          · rw [Array.getElem?_eq_none hk] at h0;cases h0)) h0 hod)
        exact ih (k + 1) b hl' hs hd (fun t hn=>ht t (fun j p hj=>by
          match j,hj with
          | 0,hj=>simp at hj;subst hj;simp [hod]
          | j + 1,hj=>exact hn j p (by simpa using hj))) he
      | some d =>
        rw [hod] at he
        obtain ⟨v,hv,hF⟩:=h.done k o d (hall k (by
          rcases Nat.lt_or_ge k ops.size with hk | hk
          · exact hk
          · rw [Array.getElem?_eq_none hk] at h0;cases h0)) h0 hod
        refine ih (k + 1) (b.put (some d) v) hl' (by simp [Act.put,hs]) (by simp [Act.put,hd]) (fun t hn=>?_) (he v hF)
        by_cases hdt:d = t
        · subst hdt
          have hlt':d < b.tmps.size:=by rw [hs,h.tsize];exact hlt d (a_T h0 hod)
          simp [Act.put,hlt',hv]
        · simp only [Act.put]
          rw [Array.getElem?_setIfInBounds_ne hdt]
          refine ht t (fun j p hj=>?_)
          match j,hj with
          | 0,hj=>simp at hj;subst hj;simpa [hod] using hdt
          | j + 1,hj=>exact hn j p (by simpa using hj)
  refine key ops.toList 0 a0 (by simp) h.tsize.symm h.defers.symm (fun t hn=>(h.keep t (fun hm=>?_)).symm) hend
  unfold a_P at hm
  obtain ⟨o,hmo,hd⟩:=List.mem_filterMap.1 hm
  obtain ⟨j,hj⟩:=List.getElem?_of_mem hmo
  exact hn j o hj hd
abbrev e_O (P:Program) (l:List Oper) (Q:Exit → Act → World → Prop) (a:Act) (w:World):Prop:=wpAny P .any l.toArray Q l.toArray.size (Array.replicate l.toArray.size false) a { w with drawn:=w.drawn + 1 }
theorem c_V {a0:Act} {w0:World} {l:List Oper} (Fs:List (Value → World → Prop)) (hR0:∀ w,R w w) (hRt:∀ a b c,R a b → R b c → R a c) (hRd:∀ w,R w { w with drawn:=w.drawn + 1 }) (hm:P.follows .mixedOrders = true) (hB:a_v l.toArray a0.tmps.size = true)
    (hst:∀ f ∈ Fs,∀ v w w',R w w' → f v w → f v w')
    (hs:StepsOkR R P l.toArray (fun i=>Fs.getD i (fun _ _=>True)) a0 w0 Q 0 l)
    (hend:∀ W,R w0 W → b_u (fun i=>Fs.getD i (fun _ _=>True)) W (fun a=>Q .normal a W) 0 l a0):e_O P l Q a0 w0:=by
  unfold e_O
  have hst':∀ (i:Nat) v w w',R w w' → (fun i=>Fs.getD i (fun _ _=>True)) i v w → (fun i=>Fs.getD i (fun _ _=>True)) i v w':=by
    intro i v w w' hb hF
    simp only [List.getD_eq_getElem?_getD] at hF ⊢
    cases hi:Fs[i]? with
    | none=>trivial
    | some f=>rw [hi] at hF;exact hst f (List.mem_of_getElem? hi) v w w' hb hF
  refine c_S (I:=RInvR R l.toArray (fun i=>Fs.getD i (fun _ _=>True)) a0 w0) (fun listed a w i h hi=>RInvR.step hR0 hRt hB hst' (by simpa using hs) h hi) (fun listed a w h hr=>RInvR.finish hB h hr (K:=fun a=>Q .normal a w) (by simpa using hend w h.below)) _ _ _ _ ?_ ?_
  · refine Nat.le_trans (List.length_filter_le _ _) (by simp)
  · refine ⟨by simp,rfl,rfl,hRd _,fun _ _=>rfl,fun i o d hl=>?_,fun i o hl=>?_⟩
    rotate_left
    · rcases Nat.lt_or_ge i l.length with hi | hi
      · simp [Array.getD_eq_getD_getElem?,hi] at hl
      · simp [Array.getD_eq_getD_getElem?,Nat.not_lt.2 hi] at hl
    rcases Nat.lt_or_ge i l.length with hi | hi
    · simp [Array.getD_eq_getD_getElem?,hi] at hl
    · simp [Array.getD_eq_getD_getElem?,Nat.not_lt.2 hi] at hl
def b_K (R:World → World → Prop) (d:Option Nat) (f:Value → World → Prop) (ds:List Deferred) (w:World) (Q:Exit → Act → World → Prop):Exit → Act → World → Prop
  | .normal,a,w'=>a.defers = ds ∧ f (a_8 d a) w' ∧ R w w'
  | .outgrown,a,w'=>Q .outgrown a w'
  | _,_,_=>False
def RunOkR (R:World → World → Prop) (P:Program) (ops:Array Oper) (a0:Act) (w0:World) (Q:Exit → Act → World → Prop) (all:List Oper):List (Value → World → Prop) → List Oper → List (List (Nat × Nat)) → Prop
  | F,[],_=>∀ W,R w0 W → b_u (fun i=>F.getD i (fun _ _=>True)) W (fun a=>Q .normal a W) 0 all a0
  | F,o :: os,ds :: D=>∃ f:Value → World → Prop,(∀ v w w',R w w' → f v w → f v w') ∧
      (∀ W,R w0 W → FillDeps F W ds a0 fun A=>wpList P ops (b_K R o.dst f a0.defers W Q) [o] A W) ∧ RunOkR R P ops a0 w0 Q all (F ++ [f]) os D
  | _,_ :: _,[]=>False
theorem d_m {D:List Nat} {F:List (Value → World → Prop)} {F':Nat → Value → World → Prop} {o:Oper} {i:Nat} {ds:List (Nat × Nat)} {f:Value → World → Prop} (hB:a_v ops a0.tmps.size = true) (hsel:Region.noSelect ops = true) (ho:ops[i]? = some o)
    (hd:d_W D ops o ds = true) (hF:∀ p ∈ ds,F' p.1 = F.getD p.1 (fun _ _=>True)) (hf:F' i = f)
    (h:∀ W,R w0 W → FillDeps F W ds a0 fun A=>wpList P ops (b_K R o.dst f a0.defers W Q) [o] A W):c_U D R P ops F' a0 w0 Q i o:=by
  intro A W hW hdf hsz hkeep hdeps
  simp only [d_W,Bool.and_eq_true,List.all_eq_true,beq_iff_eq] at hd
  obtain ⟨hd1,hd2⟩:=hd
  have dep:∀ (l:List Edge),c_x ops F' A W l → ∀ e ∈ l,∀ d,(ops[e.on]?).bind (·.dst) = some d → ∃ v,A.tmps[d]? = some v ∧ F' e.on v W:=by
    intro l
    induction l with
    | nil=>intro _ e he;cases he
    | cons x l ih =>
      intro hl e he d hed
      rcases List.mem_cons.1 he with rfl | h'
      · have:=hl.1
        rw [hed] at this
        exact this
      · exact ih hl.2 e h' d hed
  have hval:∀ p ∈ ds,(F.getD p.1 (fun _ _=>True)) (A.tmps.getD p.2 undef) W:=by
    intro p hp
    obtain ⟨h1,h2⟩:=hd1 p hp
    obtain ⟨e,he,h3⟩:=List.any_eq_true.1 h2
    simp only [Bool.and_eq_true,beq_iff_eq] at h3
    obtain ⟨v,hv,hFv⟩:=dep _ hdeps e (List.mem_filter.2 ⟨he,h3.1⟩) p.2 (by rw [h3.2];exact h1)
    rw [← hF p hp,← h3.2]
    simpa [hv] using hFv
  have hstep:=FillDeps.get (B:=A) ds a0 (h W hW) hval
  generalize hA':a_Z A ds a0 = A' at hstep
  obtain ⟨g1,g2,g3,g4,g5⟩:=b_g A ds a0 hsz.symm
  rw [hA'] at g1 g2 g3 g4 g5
  have hlook:∀ t ∈ o.looksAt ops,A'.tmps[t]? = A.tmps[t]?:=by
    intro t ht
    have:=hd2 t ht
    by_cases hm:t ∈ D
    · simp only [List.contains_eq_mem,decide_eq_true hm,Bool.not_true,Bool.false_or,List.any_eq_true,beq_iff_eq] at this
      obtain ⟨p,hp,rfl⟩:=this
      exact g5 p hp
    · exact g4 t (hkeep t hm).symm
  have hw:=b_5 (ops:=ops) hlook
  have hop:∀ cs b,o.op ≠ .select cs b:=fun cs b=>Region.noSelect_spec hsel i o cs b ho
  have he:execOp A'.eval o = execOp A.eval o:=execOp_congr o hop fun x hx=>c_T fun t ht=>hlook t (List.mem_append_left _ (List.mem_filterMap.2 ⟨x,by simpa using hx,by simp [ht]⟩))
  have hdlt:∀ d,o.dst = some d → d < A'.tmps.size:=by
    intro d hod
    simp only [a_v,Bool.and_eq_true,decide_eq_true_eq,List.all_eq_true] at hB
    rw [g2,hsz]
    exact hB.1.2 d (a_T ho hod)
  have hslot:∀ v,a_8 o.dst (A'.put o.dst v) = match o.dst with | some _=>v | none=>undef:=by
    intro v
    cases hod:o.dst with
    | none=>rfl
    | some d=>simp [a_8,Act.put,hdlt d hod]
  have hout:LetsOut (b_K R o.dst f a0.defers W Q) → LetsOut Q:=fun ⟨a,w,h⟩=>⟨a,w,h⟩
  rw [hf]
  unfold wpList at hstep
  rw [hw] at hstep
  split
  · rename_i hwt
    rw [if_pos hwt] at hstep
    rcases hstep with hstep | ⟨hasks,hl⟩
    · refine .inl ?_
      unfold Oper.wp at hstep ⊢
      rw [he] at hstep
      have conv:∀ v w',b_K R o.dst f a0.defers W Q .normal (A'.put o.dst v) w' → ∃ u,A.put o.dst v = A.put o.dst u ∧ (o.dst = none → u = undef) ∧ f u w' ∧ R W w':=by
        intro v w' hr
        obtain ⟨_,h2,h3⟩:=hr
        rw [hslot v] at h2
        cases hod:o.dst with
        | none=>rw [hod] at h2;exact ⟨undef,rfl,fun _=>rfl,h2,h3⟩
        | some d=>rw [hod] at h2;exact ⟨v,rfl,(fun h=>by cases h),h2,h3⟩
      generalize (execOp A.eval o).run P W = r at *
      cases r with
      | ok n w' =>
        cases n <;> simp only [Oper.upon,wpList] at hstep ⊢
        case value u=>exact conv u w' hstep
        case skip=>exact conv undef w' hstep
        case defer d =>
          exfalso
          have h1:=hstep.1
          cases hod:o.dst <;> simp [Act.put,hod,g1] at h1
        case enter fn args =>
          refine Calls.mono hstep fun e w'' h=>?_
          cases e with
          | returned u=>exact conv u w'' h
          | panicked c=>exact h.elim
          | outgrown=>exact hout h
        case row row args=>exact Rows.mono hstep fun u w'' h=>conv u w'' h
      | halt x w' =>
        cases x <;> simp only [Oper.upon] at hstep ⊢
        case panic u=>exact hstep.elim
    · refine .inr ⟨?_,hout hl⟩
      unfold Oper.asks at hasks ⊢
      rw [he] at hasks
      exact hasks
  · rename_i hwt
    rw [if_neg hwt] at hstep
    obtain ⟨_,h2,_⟩:=(show b_K R o.dst f a0.defers W Q .normal (A'.put o.dst undef) W from hstep)
    rw [hslot undef] at h2
    cases hod:o.dst <;> simpa [hod] using h2
theorem d_n {F:List (Value → World → Prop)} {F':Nat → Value → World → Prop} {o:Oper} {i:Nat} {ds:List (Nat × Nat)} {f:Value → World → Prop} (hB:a_v ops a0.tmps.size = true) (hsel:Region.noSelect ops = true) (ho:ops[i]? = some o)
    (hd:e_N ops o ds = true) (hF:∀ p ∈ ds,F' p.1 = F.getD p.1 (fun _ _=>True)) (hf:F' i = f)
    (h:∀ W,R w0 W → FillDeps F W ds a0 fun A=>wpList P ops (b_K R o.dst f a0.defers W Q) [o] A W):e_j R P ops F' a0 w0 Q i o:=d_m (D:=a_P ops) hB hsel ho hd hF hf h
theorem RunOkR.fs {all:List Oper} (hB:a_v ops a0.tmps.size = true) (hsel:Region.noSelect ops = true):∀ (l:List Oper) (k:Nat) (F:List (Value → World → Prop)) (D:List (List (Nat × Nat))),
    F.length = k → (∀ j,l[j]? = ops[k + j]?) → b_f ops l D = true → RunOkR R P ops a0 w0 Q all F l D → (∀ f ∈ F,∀ v w w',R w w' → f v w → f v w') →
    (∀ i o,ops[i]? = some o → ∀ e ∈ o.after,Region.binds .any e = true → e.on < i) →
    ∃ Fs:List (Value → World → Prop),Fs.length = k + l.length ∧ (∀ i,i < k → Fs.getD i (fun _ _=>True) = F.getD i (fun _ _=>True)) ∧ (∀ f ∈ Fs,∀ v w w',R w w' → f v w → f v w') ∧
      StepsOkR R P ops (fun i=>Fs.getD i (fun _ _=>True)) a0 w0 Q k l ∧ ∀ W,R w0 W → b_u (fun i=>Fs.getD i (fun _ _=>True)) W (fun a=>Q .normal a W) 0 all a0
  | [],k,F,D,hk,_,_,h,hst,_=>⟨F,by simpa using hk,fun _ _=>rfl,hst,trivial,h⟩
  | o :: l,k,F,[],_,_,_,h,_,_=>h.elim
  | o :: l,k,F,ds :: D,hk,hl,hD,h,hst,hac=>by
    obtain ⟨f,hf,hstep,hrest⟩:=h
    have h0:ops[k]? = some o:=by simpa using (hl 0).symm
    simp only [b_f,Bool.and_eq_true] at hD
    obtain ⟨Fs,hlen,hsame,hstab,hsteps,hend⟩:=RunOkR.fs hB hsel l (k + 1) (F ++ [f]) D (by simp [hk]) (fun j=>by have:=hl (j + 1);simpa [Nat.add_assoc,Nat.add_comm 1 j] using this) hD.2 hrest
      (fun g hg=>by
        rcases List.mem_append.1 hg with h' | h'
        · exact hst g h'
        · rw [List.mem_singleton.1 h'];exact hf) hac
    have hlow:∀ i,i < k → Fs.getD i (fun _ _=>True) = F.getD i (fun _ _=>True):=fun i hi=>by
      rw [hsame i (by omega)]
      simp [List.getD,List.getElem?_append_left (show i < F.length by omega)]
    refine ⟨Fs,by simp only [List.length_cons];omega,hlow,hstab,⟨?_,hsteps⟩,hend⟩
    have hD1:=hD.1
    refine d_n (F:=F) (f:=f) hB hsel h0 hD1 (fun p hp=>hlow p.1 ?_) ?_ hstep
    · simp only [e_N,Bool.and_eq_true,List.all_eq_true,beq_iff_eq] at hD1
      obtain ⟨e,he,h3⟩:=List.any_eq_true.1 (hD1.1 p hp).2
      simp only [Bool.and_eq_true,beq_iff_eq] at h3
      have:=hac k o h0 e (Array.mem_toList_iff.1 he) h3.1
      omega
    · show Fs.getD k _ = f
      rw [hsame k (by omega)]
      simp [List.getD,← hk]
variable {all:List Oper} {F:List (Value → World → Prop)} {o:Oper} {os:List Oper} {ds:List (Nat × Nat)} {D:List (List (Nat × Nat))}
end
def Fill (B g:Nat) (blk:Obj) (w w':World):Prop:=Below B w w' ∧ (w'.heap[g]? = w.heap[g]? ∨ w'.heap[g]? = some blk)
theorem Fill.refl (B g:Nat) (blk:Obj) (w:World):Fill B g blk w w:=⟨Below.refl _ _,.inl rfl⟩
theorem Fill.trans (B g:Nat) (blk:Obj) (a b c:World) (h:Fill B g blk a b) (k:Fill B g blk b c):Fill B g blk a c :=
  ⟨h.1.trans k.1,by
    rcases k.2 with k2 | k2
    · rcases h.2 with h2 | h2
      · exact .inl (k2.trans h2)
      · exact .inr (k2.trans h2)
    · exact .inr k2⟩
theorem Fill.drawn (B g:Nat) (blk:Obj) (w:World):Fill B g blk w { w with drawn:=w.drawn + 1 }:=⟨⟨rfl,rfl,rfl,Nat.le_refl _,fun _ _=>rfl⟩,.inl rfl⟩
def filled (g:Nat) (blk:Obj):Value → World → Prop:=fun _ w=>w.heap[g]? = some blk
end Go.Proofs.Ytfelbalkobcfhaa
