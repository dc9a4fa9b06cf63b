/- A region that draws its order, all of whose operations leave old memory alone: what holds of each operation's value, whatever the order, is enough. Plain theorems, no condition. -/
import Derived.Test.YtfelbalkobcfhaaCommon
import Derived.Orders
namespace Go.Proofs.Ytfelbalkobcfhaa
open Go.RowKit
theorem c_p {a b c:World} (h:Below a.heap.size a b) (k:Below b.heap.size b c):Below a.heap.size a c:=h.trans (k.mono h.size)
def c_x (ops:Array Oper) (F:Nat → Value → World → Prop) (A:Act) (W:World):List Edge → Prop
  | []=>True
  | e :: es=>(match (ops[e.on]?).bind (·.dst) with | some d=>∃ v,A.tmps[d]? = some v ∧ F e.on v W | none=>True) ∧ c_x ops F A W es
def a_P (ops:Array Oper):List Nat:=ops.toList.filterMap (·.dst)
def StepOk (P:Program) (ops:Array Oper) (F:Nat → Value → World → Prop) (a0:Act) (w0:World) (Q:Exit → Act → World → Prop) (i:Nat) (o:Oper):Prop :=
  ∀ (A:Act) (W:World),Below w0.heap.size w0 W → A.defers = a0.defers → A.tmps.size = a0.tmps.size → (∀ t,t ∉ a_P ops → A.tmps[t]? = a0.tmps[t]?) → c_x ops F A W (o.after.toList.filter (Region.binds .any)) →
    if Region.wanted o (yielded ops A.tmps) then o.wp P A W (fun A' W'=>∃ v,A' = A.put o.dst v ∧ F i v W' ∧ Below W.heap.size W W') Q ∨ (o.asks P A W ∧ LetsOut Q) else F i undef W
def StepsOk (P:Program) (ops:Array Oper) (F:Nat → Value → World → Prop) (a0:Act) (w0:World) (Q:Exit → Act → World → Prop):Nat → List Oper → Prop
  | _,[]=>True
  | i,o :: os=>StepOk P ops F a0 w0 Q i o ∧ StepsOk P ops F a0 w0 Q (i + 1) os
def e_i (F:Nat → Value → World → Prop) (W:World) (Q:Act → Prop):Nat → List Oper → Act → Prop
  | _,[],a=>Q a
  | i,o :: os,a=>match o.dst with
    | some _=>∀ v,F i v W → e_i F W Q (i + 1) os (a.put o.dst v)
    | none=>e_i F W Q (i + 1) os a
def a_v (ops:Array Oper) (n:Nat):Bool :=
  (a_P ops).Nodup && (a_P ops).all (· < n) && (ops.toList.zipIdx.all fun (o,i)=>o.after.all fun e=>!Region.binds .any e || decide (e.on < i))
structure RInv (ops:Array Oper) (F:Nat → Value → World → Prop) (a0:Act) (w0:World) (listed:Array Bool) (a:Act) (w:World):Prop where
  size:listed.size = ops.size
  tsize:a.tmps.size = a0.tmps.size
  defers:a.defers = a0.defers
  below:Below w0.heap.size w0 w
  keep:∀ t,t ∉ a_P ops → a.tmps[t]? = a0.tmps[t]?
  done:∀ (i:Nat) (o:Oper) (d:Nat),listed.getD i false = true → ops[i]? = some o → o.dst = some d → ∃ v,a.tmps[d]? = some v ∧ F i v w
section
variable {P:Program} {ops:Array Oper} {F:Nat → Value → World → Prop} {a0:Act} {w0:World} {Q:Exit → Act → World → Prop}
theorem StepsOk.get:∀ (l:List Oper) (k:Nat),StepsOk P ops F a0 w0 Q k l → ∀ j o,l[j]? = some o → StepOk P ops F a0 w0 Q (k + j) o
  | [],_,_,j,o,h=>by simp at h
  | x :: l,k,hs,0,o,h=>by simp at h;subst h;exact hs.1
  | x :: l,k,hs,j + 1,o,h=>by
    have:=StepsOk.get l (k + 1) hs.2 j o (by simpa using h)
    rwa [Nat.add_assoc,Nat.add_comm 1 j] at this
theorem a_T {i:Nat} {o:Oper} {d:Nat} (h:ops[i]? = some o) (hd:o.dst = some d):d ∈ a_P ops:=by
  unfold a_P
  refine List.mem_filterMap.2 ⟨o,?_,hd⟩
  exact Array.mem_toList_iff.2 (Array.mem_of_getElem? h)
theorem b_J:∀ (l:List Oper),(l.filterMap (·.dst)).Nodup → ∀ (i j:Nat) (x y:Oper) (d:Nat),l[i]? = some x → l[j]? = some y → x.dst = some d → y.dst = some d → i = j
  | [],_,i,j,x,y,d,hi,_,_,_=>by simp at hi
  | o :: l,hn,i,j,x,y,d,hi,hj,hx,hy=>by
    have hn':(l.filterMap (·.dst)).Nodup:=by
      cases ho:o.dst with
      | none=>simpa [List.filterMap_cons,ho] using hn
      | some e=>rw [List.filterMap_cons,ho] at hn;exact (List.nodup_cons.1 hn).2
    have hnot:∀ (k:Nat) (z:Oper) (e:Nat),l[k]? = some z → z.dst = some e → o.dst ≠ some e:=by
      intro k z e hk hz ho
      rw [List.filterMap_cons,ho] at hn
      exact (List.nodup_cons.1 hn).1 (List.mem_filterMap.2 ⟨z,List.mem_of_getElem? hk,hz⟩)
    match i,j with
    | 0,0=>rfl
    | 0,j + 1=>simp at hi hj;subst hi;exact absurd hx (hnot j y d hj hy)
    | i + 1,0=>simp at hi hj;subst hj;exact absurd hy (hnot i x d hi hx)
    | i + 1,j + 1=>simp at hi hj;rw [b_J l hn' i j x y d hi hj hx hy]
theorem RInv.step (hB:a_v ops a0.tmps.size = true) (hst:∀ i v w w',Below w.heap.size w w' → F i v w → F i v w') (hs:StepsOk P ops F a0 w0 Q 0 ops.toList)
    {listed:Array Bool} {a:Act} {w:World} {i:Nat} (h:RInv ops F a0 w0 listed a w) (hi:i ∈ Region.ready .any ops listed) :
    wpOp P ops Q i (fun a' w'=>RInv ops F a0 w0 (listed.setIfInBounds i true) a' w') a w:=by
  obtain ⟨hun,o,ho,hall⟩:=mem_ready.1 hi
  simp only [a_v,Bool.and_eq_true,decide_eq_true_eq,List.all_eq_true] at hB
  obtain ⟨⟨hnd,hlt⟩,_⟩:=hB
  have hstep:=StepsOk.get ops.toList 0 hs i o (by simpa using ho) a w h.below h.defers h.tsize h.keep (by
    have:∀ l:List Edge,(∀ e ∈ l,e ∈ o.after ∧ Region.binds .any e = true) → c_x ops F a w l:=by
      intro l
      induction l with
      | nil=>intro _;trivial
      | cons e es ih =>
        intro hl
        refine ⟨?_,ih fun x hx=>hl x (List.mem_cons_of_mem _ hx)⟩
        obtain ⟨he,hb⟩:=hl e (by simp)
        have hd:=hall e he hb
        cases hoe:ops[e.on]? with
        | none=>trivial
        | some oe =>
          cases hde:oe.dst with
          | none=>simp [hde]
          | some d=>simpa [hde] using h.done e.on oe d hd hoe hde
    exact this _ fun e he=>by
      rw [List.mem_filter] at he
      exact ⟨Array.mem_toList_iff.1 he.1,he.2⟩)
  rw [Nat.zero_add] at hstep
  have fin:∀ v w',F i v w' → Below w.heap.size w w' → RInv ops F a0 w0 (listed.setIfInBounds i true) (a.put o.dst v) w':=by
    intro v w' hv hb
    have tk:∀ t,o.dst ≠ some t → (a.put o.dst v).tmps[t]? = a.tmps[t]?:=by
      intro t hne
      cases hd:o.dst with
      | none=>rfl
      | some d =>
        have:d ≠ t:=fun e=>hne (by rw [hd,e])
        simp [Act.put,Array.getElem?_setIfInBounds_ne this]
    refine ⟨by simpa using h.size,?_,?_,c_p h.below hb,fun t ht=>?_,fun j p d hj hp hd=>?_⟩
    · cases hd:o.dst <;> simp [Act.put,h.tsize]
    · cases hd:o.dst <;> simp [Act.put,h.defers]
    · rw [tk t (fun e=>ht (a_T ho e)),h.keep t ht]
    · by_cases hij:i = j
      · subst hij
        rw [ho] at hp
        obtain rfl:=Option.some.inj hp
        refine ⟨v,?_,hv⟩
        have:d < a.tmps.size:=by
          rw [h.tsize]
          exact hlt d (a_T ho hd)
        simp [Act.put,hd,this]
      · rw [show (listed.setIfInBounds i true).getD j false = listed.getD j false from getD_set_ne false hij] at hj
        obtain ⟨u,hu,hF⟩:=h.done j p d hj hp hd
        refine ⟨u,?_,hst _ _ _ _ hb hF⟩
        rw [tk d (fun e=>hij (b_J ops.toList hnd i j o p d (by simpa using ho) (by simpa using hp) e hd))]
        exact hu
  unfold wpOp
  simp only [ho]
  split
  · rename_i hw
    rw [if_pos hw] at hstep
    exact hstep.imp (Oper.wp_mono (fun a' w' ⟨v,e,hv,hb⟩=>by subst e;exact fin v w' hv hb)) id
  · rename_i hw
    rw [if_neg hw] at hstep
    exact fin undef w hstep (Below.refl _ _)
theorem b_t {listed:Array Bool} (hsz:listed.size = ops.size) (hac:∀ i o,ops[i]? = some o → ∀ e ∈ o.after,Region.binds .any e = true → e.on < i) (h:Region.ready .any ops listed = []) :
    ∀ i,i < ops.size → listed.getD i false = true:=by
  intro i
  induction i using Nat.strongRecOn with
  | ind i ih =>
    intro hi
    have hli:i < listed.size:=by omega
    cases hl:listed.getD i false with
    | true=>rfl
    | false =>
      exfalso
      have hm:i ∈ Region.ready .any ops listed:=mem_ready.2 ⟨by simpa [hli] using hl,ops[i],by simp [hi],fun e he hb=>ih e.on (hac i ops[i] (by simp [hi]) e he hb) (by
        have:=hac i ops[i] (by simp [hi]) e he hb
        omega)⟩
      rw [h] at hm
      cases hm
theorem RInv.finish (hB:a_v ops a0.tmps.size = true) {listed:Array Bool} {a:Act} {w:World} (h:RInv ops F a0 w0 listed a w) (hr:Region.ready .any ops listed = [])
    {K:Act → Prop} (hend:e_i F w K 0 ops.toList a0):K a:=by
  have hB':=hB
  simp only [a_v,Bool.and_eq_true,decide_eq_true_eq,List.all_eq_true] at hB'
  obtain ⟨⟨hnd,hlt⟩,hacB⟩:=hB'
  have hac:∀ (i:Nat) (o:Oper),ops[i]? = some o → ∀ e ∈ o.after,Region.binds .any e = true → e.on < i:=by
    intro i o ho e he hb
    have:=hacB (o,i) (by
      rw [List.mem_zipIdx_iff_getElem?]
      simpa using ho)
    simp only [Array.all_eq_true_iff_forall_mem] at this
    have:=this e he
    simpa [hb] using this
  have hall:=b_t h.size hac hr
  have key:∀ (l:List Oper) (k:Nat) (b:Act),(∀ j,l[j]? = ops.toList[k + j]?) → b.tmps.size = a.tmps.size → b.defers = a.defers →
      (∀ t,(∀ (j:Nat) (o:Oper),l[j]? = some o → o.dst ≠ some t) → b.tmps[t]? = a.tmps[t]?) → e_i F w K k l b → K a:=by
    intro l
    induction l with
    | nil =>
      intro k b _ hs hd ht he
      have:b = a:=by
        obtain ⟨bt,bd⟩:=b
        obtain ⟨at_,ad⟩:=a
        simp only at hd
        subst hd
        have:bt = at_:=Array.ext_getElem? fun t=>ht t (fun j o hj=>by simp at hj)
        rw [this]
      rw [← this]
      exact he
    | cons o l ih =>
      intro k b hl hs hd ht he
      have h0:ops[k]? = some o:=by simpa using (hl 0).symm
      have hl':∀ j,l[j]? = ops.toList[k + 1 + j]?:=fun j=>by have:=hl (j + 1);simpa [Nat.add_assoc,Nat.add_comm 1 j] using this
      unfold e_i at he
      cases hod:o.dst with
      | none =>
        rw [hod] at he
        exact ih (k + 1) b hl' hs hd (fun t hn=>ht t (fun j p hj=>by
          match j,hj with
          | 0,hj=>simp at hj;subst hj;simp [hod]
          | j + 1,hj=>exact hn j p (by simpa using hj))) he
      | some d =>
        rw [hod] at he
        obtain ⟨v,hv,hF⟩:=h.done k o d (hall k (by
          rcases Nat.lt_or_ge k ops.size with hk | hk
          · exact hk
          · rw [Array.getElem?_eq_none hk] at h0;cases h0)) h0 hod
        refine ih (k + 1) (b.put (some d) v) hl' (by simp [Act.put,hs]) (by simp [Act.put,hd]) (fun t hn=>?_) (he v hF)
        by_cases hdt:d = t
        · subst hdt
          have hlt':d < b.tmps.size:=by rw [hs,h.tsize];exact hlt d (a_T h0 hod)
          simp [Act.put,hlt',hv]
        · simp only [Act.put]
          rw [Array.getElem?_setIfInBounds_ne hdt]
          refine ht t (fun j p hj=>?_)
          match j,hj with
          | 0,hj=>simp at hj;subst hj;simpa [hod] using hdt
          | j + 1,hj=>exact hn j p (by simpa using hj)
  refine key ops.toList 0 a0 (by simp) h.tsize.symm h.defers.symm (fun t hn=>(h.keep t (fun hm=>?_)).symm) hend
  unfold a_P at hm
  obtain ⟨o,hmo,hd⟩:=List.mem_filterMap.1 hm
  obtain ⟨j,hj⟩:=List.getElem?_of_mem hmo
  exact hn j o hj hd
theorem unlisted_lt {listed:Array Bool} {i:Nat} (hi:i ∈ Region.ready .any ops listed):i < listed.size ∧ listed.getD i false = false:=by
  obtain ⟨h,_⟩:=mem_ready.1 hi
  rcases Nat.lt_or_ge i listed.size with hl | hl
  · exact ⟨hl,by simpa [hl] using h⟩
  · simp [Array.getElem?_eq_none hl] at h
theorem c_S (I:Array Bool → Act → World → Prop) (hstep:∀ listed a w i,I listed a w → i ∈ Region.ready .any ops listed → wpOp P ops Q i (fun a' w'=>I (listed.setIfInBounds i true) a' w') a w)
    (hend:∀ listed a w,I listed a w → Region.ready .any ops listed = [] → Q .normal a w) :
    ∀ (fuel:Nat) (listed:Array Bool) (a:Act) (w:World),(listed.toList.filter (!·)).length ≤ fuel → I listed a w → wpAny P .any ops Q fuel listed a w:=by
  intro fuel
  induction fuel with
  | zero =>
    intro listed a w hc hI
    have hr:Region.ready .any ops listed = []:=by
      refine List.eq_nil_iff_forall_not_mem.2 fun i hi=>?_
      obtain ⟨hl,hf⟩:=unlisted_lt hi
      have hm:false ∈ listed.toList.filter (!·):=List.mem_filter.2 ⟨by
        rw [show false = listed[i] from by simpa [hl] using hf.symm]
        exact Array.mem_toList_iff.2 (Array.getElem_mem hl),rfl⟩
      have:=List.length_pos_of_mem hm
      omega
    exact ⟨hr,hend _ _ _ hI hr⟩
  | succ fuel ih =>
    intro listed a w hc hI
    refine ⟨hend _ _ _ hI,fun i hi=>wpOp_mono (fun a' w' h'=>ih _ a' w' ?_ h') (hstep _ _ _ i hI hi)⟩
    obtain ⟨hl,hf⟩:=unlisted_lt hi
    have hf':listed.toList[i]'(by simpa using hl) = false:=by simpa [hl] using hf
    have:∀ (l:List Bool) (i:Nat) (h:i < l.length),l[i] = false → ((l.set i true).filter (!·)).length + 1 = (l.filter (!·)).length:=by
      intro l
      induction l with
      | nil=>intro i h;simp at h
      | cons x l ih =>
        intro i h e
        match i with
        | 0=>simp at e;subst e;simp
        | i + 1 =>
          have:=ih i (by simpa using h) (by simpa using e)
          cases x <;> simp at this ⊢ <;> omega
    have:=this listed.toList i (by simpa using hl) hf'
    rw [Array.toList_setIfInBounds]
    omega
def a_8 (d:Option Nat) (a:Act):Value:=match d with | some d=>a.tmps.getD d undef | none=>undef
def RPost (d:Option Nat) (f:Value → World → Prop) (ds:List Deferred) (w:World) (Q:Exit → Act → World → Prop):Exit → Act → World → Prop
  | .normal,a,w'=>a.defers = ds ∧ f (a_8 d a) w' ∧ Below w.heap.size w w'
  | .outgrown,a,w'=>Q .outgrown a w'
  | _,_,_=>False
def FillDeps (F:List (Value → World → Prop)) (W:World):List (Nat × Nat) → Act → (Act → Prop) → Prop
  | [],A,R=>R A
  | (i,d) :: ds,A,R=>∀ v,(F.getD i (fun _ _=>True)) v W → FillDeps F W ds (A.put (some d) v) R
def e_N (ops:Array Oper) (o:Oper) (ds:List (Nat × Nat)):Bool :=
  (ds.all fun p=>((ops[p.1]?).bind (·.dst)) == some p.2 && o.after.toList.any fun e=>Region.binds .any e && e.on == p.1) &&
  ((o.looksAt ops).all fun t=>!(a_P ops).contains t || ds.any (·.2 == t))
def b_f (ops:Array Oper):List Oper → List (List (Nat × Nat)) → Bool
  | [],_=>true
  | o :: os,ds :: D=>e_N ops o ds && b_f ops os D
  | _,_=>false
def RunOk (P:Program) (ops:Array Oper) (a0:Act) (w0:World) (Q:Exit → Act → World → Prop) (all:List Oper):List (Value → World → Prop) → List Oper → List (List (Nat × Nat)) → Prop
  | F,[],_=>∀ W,Below w0.heap.size w0 W → e_i (fun i=>F.getD i (fun _ _=>True)) W (fun a=>Q .normal a W) 0 all a0
  | F,o :: os,ds :: D=>∃ f:Value → World → Prop,(∀ v w w',Below w.heap.size w w' → f v w → f v w') ∧
      (∀ W,Below w0.heap.size w0 W → FillDeps F W ds a0 fun A=>wpList P ops (RPost o.dst f a0.defers W Q) [o] A W) ∧ RunOk P ops a0 w0 Q all (F ++ [f]) os D
  | _,_ :: _,[]=>False
def a_Z (B:Act):List (Nat × Nat) → Act → Act
  | [],A=>A
  | (_,d) :: ds,A=>a_Z B ds (A.put (some d) (B.tmps.getD d undef))
theorem FillDeps.get {F:List (Value → World → Prop)} {W:World} {B:Act} {R:Act → Prop}:∀ (ds:List (Nat × Nat)) (A:Act),FillDeps F W ds A R → (∀ p ∈ ds,(F.getD p.1 (fun _ _=>True)) (B.tmps.getD p.2 undef) W) → R (a_Z B ds A)
  | [],_,h,_=>h
  | (i,d) :: ds,A,h,hp=>FillDeps.get ds _ (h _ (hp (i,d) (by simp))) fun p hm=>hp p (List.mem_cons_of_mem _ hm)
theorem b_g (B:Act):∀ (ds:List (Nat × Nat)) (A:Act),A.tmps.size = B.tmps.size →
    (a_Z B ds A).defers = A.defers ∧ (a_Z B ds A).tmps.size = B.tmps.size ∧ (∀ t:Nat,(a_Z B ds A).tmps[t]? = A.tmps[t]? ∨ (a_Z B ds A).tmps[t]? = B.tmps[t]?) ∧
      (∀ t:Nat,A.tmps[t]? = B.tmps[t]? → (a_Z B ds A).tmps[t]? = B.tmps[t]?) ∧ ∀ p ∈ ds,(a_Z B ds A).tmps[p.2]? = B.tmps[p.2]?
  | [],A,hs=>⟨rfl,hs,fun _=>.inl rfl,fun _ h=>h,fun _ h=>by cases h⟩
  | (i,d) :: ds,A,hs=>by
    have key:∀ t:Nat,(A.put (some d) (B.tmps.getD d undef)).tmps[t]? = if d = t then B.tmps[t]? else A.tmps[t]?:=by
      intro t
      by_cases e:d = t
      · subst e
        rw [if_pos rfl]
        rcases Nat.lt_or_ge d B.tmps.size with h | h
        · simp [Act.put,hs,h]
        · simp [Act.put,Array.getElem?_eq_none h]
          omega
      · rw [if_neg e]
        simp [Act.put,Array.getElem?_setIfInBounds_ne e]
    obtain ⟨h1,h2,h3,h4,h5⟩:=b_g B ds (A.put (some d) (B.tmps.getD d undef)) (by simp [Act.put,hs])
    refine ⟨by simpa [a_Z,Act.put] using h1,h2,fun t=>?_,fun t ht=>?_,fun p hp=>?_⟩
    · rcases h3 t with h | h
      · rw [key t] at h
        split at h
        · exact .inr h
        · exact .inl h
      · exact .inr h
    · refine h4 t ?_
      rw [key t]
      split
      · rfl
      · exact ht
    · rcases List.mem_cons.1 hp with e | h
      · subst e
        exact h4 d (by rw [key d,if_pos rfl])
      · exact h5 p h
theorem c_T {A B:Act} {x:Operand} (h:∀ t,x = .tmp t → A.tmps[t]? = B.tmps[t]?):A.eval x = B.eval x:=by
  cases x with
  | tmp t=>simp [Act.eval,h t rfl]
  | _=>rfl
theorem b_5 {o:Oper} {A B:Act} (h:∀ t ∈ o.looksAt ops,A.tmps[t]? = B.tmps[t]?):Region.wanted o (yielded ops A.tmps) = Region.wanted o (yielded ops B.tmps):=by
  unfold Region.wanted
  cases hg:o.guard with
  | none=>rfl
  | some gw =>
    obtain ⟨g,want⟩:=gw
    have:yielded ops A.tmps g = yielded ops B.tmps g:=by
      unfold yielded
      cases hd:(ops[g]?).bind (·.dst) with
      | none=>rfl
      | some d =>
        have:=h d (List.mem_append_right _ (by simp [hg,hd]))
        simp [this]
    simp [this]
theorem stepOk_of {F:List (Value → World → Prop)} {F':Nat → Value → World → Prop} {o:Oper} {i:Nat} {ds:List (Nat × Nat)} {f:Value → World → Prop} (hB:a_v ops a0.tmps.size = true) (hsel:Region.noSelect ops = true) (ho:ops[i]? = some o)
    (hd:e_N ops o ds = true) (hF:∀ p ∈ ds,F' p.1 = F.getD p.1 (fun _ _=>True)) (hf:F' i = f)
    (h:∀ W,Below w0.heap.size w0 W → FillDeps F W ds a0 fun A=>wpList P ops (RPost o.dst f a0.defers W Q) [o] A W):StepOk P ops F' a0 w0 Q i o:=by
  intro A W hW hdf hsz hkeep hdeps
  simp only [e_N,Bool.and_eq_true,List.all_eq_true,beq_iff_eq] at hd
  obtain ⟨hd1,hd2⟩:=hd
  have dep:∀ (l:List Edge),c_x ops F' A W l → ∀ e ∈ l,∀ d,(ops[e.on]?).bind (·.dst) = some d → ∃ v,A.tmps[d]? = some v ∧ F' e.on v W:=by
    intro l
    induction l with
    | nil=>intro _ e he;cases he
    | cons x l ih =>
      intro hl e he d hed
      rcases List.mem_cons.1 he with rfl | h'
      · have:=hl.1
        rw [hed] at this
        exact this
      · exact ih hl.2 e h' d hed
  have hval:∀ p ∈ ds,(F.getD p.1 (fun _ _=>True)) (A.tmps.getD p.2 undef) W:=by
    intro p hp
    obtain ⟨h1,h2⟩:=hd1 p hp
    obtain ⟨e,he,h3⟩:=List.any_eq_true.1 h2
    simp only [Bool.and_eq_true,beq_iff_eq] at h3
    obtain ⟨v,hv,hFv⟩:=dep _ hdeps e (List.mem_filter.2 ⟨he,h3.1⟩) p.2 (by rw [h3.2];exact h1)
    rw [← hF p hp,← h3.2]
    simpa [hv] using hFv
  have hstep:=FillDeps.get (B:=A) ds a0 (h W hW) hval
  generalize hA':a_Z A ds a0 = A' at hstep
  obtain ⟨g1,g2,g3,g4,g5⟩:=b_g A ds a0 hsz.symm
  rw [hA'] at g1 g2 g3 g4 g5
  have hlook:∀ t ∈ o.looksAt ops,A'.tmps[t]? = A.tmps[t]?:=by
    intro t ht
    have:=hd2 t ht
    by_cases hm:t ∈ a_P ops
    · simp only [List.contains_eq_mem,decide_eq_true hm,Bool.not_true,Bool.false_or,List.any_eq_true,beq_iff_eq] at this
      obtain ⟨p,hp,rfl⟩:=this
      exact g5 p hp
    · exact g4 t (hkeep t hm).symm
  have hw:=b_5 (ops:=ops) hlook
  have hop:∀ cs b,o.op ≠ .select cs b:=fun cs b=>Region.noSelect_spec hsel i o cs b ho
  have he:execOp A'.eval o = execOp A.eval o:=execOp_congr o hop fun x hx=>c_T fun t ht=>hlook t (List.mem_append_left _ (List.mem_filterMap.2 ⟨x,by simpa using hx,by simp [ht]⟩))
  have hdlt:∀ d,o.dst = some d → d < A'.tmps.size:=by
    intro d hod
    simp only [a_v,Bool.and_eq_true,decide_eq_true_eq,List.all_eq_true] at hB
    rw [g2,hsz]
    exact hB.1.2 d (a_T ho hod)
  have hslot:∀ v,a_8 o.dst (A'.put o.dst v) = match o.dst with | some _=>v | none=>undef:=by
    intro v
    cases hod:o.dst with
    | none=>rfl
    | some d=>simp [a_8,Act.put,hdlt d hod]
  have hout:LetsOut (RPost o.dst f a0.defers W Q) → LetsOut Q:=fun ⟨a,w,h⟩=>⟨a,w,h⟩
  rw [hf]
  unfold wpList at hstep
  rw [hw] at hstep
  split
  · rename_i hwt
    rw [if_pos hwt] at hstep
    rcases hstep with hstep | ⟨hasks,hl⟩
    · refine .inl ?_
      unfold Oper.wp at hstep ⊢
      rw [he] at hstep
      have conv:∀ v w',RPost o.dst f a0.defers W Q .normal (A'.put o.dst v) w' → ∃ u,A.put o.dst v = A.put o.dst u ∧ f u w' ∧ Below W.heap.size W w':=by
        intro v w' hr
        obtain ⟨_,h2,h3⟩:=hr
        rw [hslot v] at h2
        cases hod:o.dst with
        | none=>rw [hod] at h2;exact ⟨undef,rfl,h2,h3⟩
        | some d=>rw [hod] at h2;exact ⟨v,rfl,h2,h3⟩
      generalize (execOp A.eval o).run P W = r at *
      cases r with
      | ok n w' =>
        cases n <;> simp only [Oper.upon,wpList] at hstep ⊢
        case value u=>exact conv u w' hstep
        case skip=>exact conv undef w' hstep
        case defer d =>
          exfalso
          have h1:=hstep.1
          cases hod:o.dst <;> simp [Act.put,hod,g1] at h1
        case enter fn args =>
          refine Calls.mono hstep fun e w'' h=>?_
          cases e with
          | returned u=>exact conv u w'' h
          | panicked c=>exact h.elim
          | outgrown=>exact hout h
        case row row args=>exact Rows.mono hstep fun u w'' h=>conv u w'' h
      | halt x w' =>
        cases x <;> simp only [Oper.upon] at hstep ⊢
        case panic u=>exact hstep.elim
    · refine .inr ⟨?_,hout hl⟩
      unfold Oper.asks at hasks ⊢
      rw [he] at hasks
      exact hasks
  · rename_i hwt
    rw [if_neg hwt] at hstep
    obtain ⟨_,h2,_⟩:=(show RPost o.dst f a0.defers W Q .normal (A'.put o.dst undef) W from hstep)
    rw [hslot undef] at h2
    cases hod:o.dst <;> simpa [hod] using h2
theorem RunOk.fs {all:List Oper} (hB:a_v ops a0.tmps.size = true) (hsel:Region.noSelect ops = true):∀ (l:List Oper) (k:Nat) (F:List (Value → World → Prop)) (D:List (List (Nat × Nat))),
    F.length = k → (∀ j,l[j]? = ops[k + j]?) → b_f ops l D = true → RunOk P ops a0 w0 Q all F l D → (∀ f ∈ F,∀ v w w',Below w.heap.size w w' → f v w → f v w') →
    (∀ i o,ops[i]? = some o → ∀ e ∈ o.after,Region.binds .any e = true → e.on < i) →
    ∃ Fs:List (Value → World → Prop),Fs.length = k + l.length ∧ (∀ i,i < k → Fs.getD i (fun _ _=>True) = F.getD i (fun _ _=>True)) ∧ (∀ f ∈ Fs,∀ v w w',Below w.heap.size w w' → f v w → f v w') ∧
      StepsOk P ops (fun i=>Fs.getD i (fun _ _=>True)) a0 w0 Q k l ∧ ∀ W,Below w0.heap.size w0 W → e_i (fun i=>Fs.getD i (fun _ _=>True)) W (fun a=>Q .normal a W) 0 all a0
  | [],k,F,D,hk,_,_,h,hst,_=>⟨F,by simpa using hk,fun _ _=>rfl,hst,trivial,h⟩
  | o :: l,k,F,[],_,_,_,h,_,_=>h.elim
  | o :: l,k,F,ds :: D,hk,hl,hD,h,hst,hac=>by
    obtain ⟨f,hf,hstep,hrest⟩:=h
    have h0:ops[k]? = some o:=by simpa using (hl 0).symm
    simp only [b_f,Bool.and_eq_true] at hD
    obtain ⟨Fs,hlen,hsame,hstab,hsteps,hend⟩:=RunOk.fs hB hsel l (k + 1) (F ++ [f]) D (by simp [hk]) (fun j=>by have:=hl (j + 1);simpa [Nat.add_assoc,Nat.add_comm 1 j] using this) hD.2 hrest
      (fun g hg=>by
        rcases List.mem_append.1 hg with h' | h'
        · exact hst g h'
        · rw [List.mem_singleton.1 h'];exact hf) hac
    have hlow:∀ i,i < k → Fs.getD i (fun _ _=>True) = F.getD i (fun _ _=>True):=fun i hi=>by
      rw [hsame i (by omega)]
      simp [List.getD,List.getElem?_append_left (show i < F.length by omega)]
    refine ⟨Fs,by simp only [List.length_cons];omega,hlow,hstab,⟨?_,hsteps⟩,hend⟩
    have hD1:=hD.1
    refine stepOk_of (F:=F) (f:=f) hB hsel h0 hD1 (fun p hp=>hlow p.1 ?_) ?_ hstep
    · simp only [e_N,Bool.and_eq_true,List.all_eq_true,beq_iff_eq] at hD1
      obtain ⟨e,he,h3⟩:=List.any_eq_true.1 (hD1.1 p hp).2
      simp only [Bool.and_eq_true,beq_iff_eq] at h3
      have:=hac k o h0 e (Array.mem_toList_iff.1 he) h3.1
      omega
    · show Fs.getD k _ = f
      rw [hsame k (by omega)]
      simp [List.getD,← hk]
def eqv (x:Value):Value → World → Prop:=fun v _=>v = x
def isNew (e:TypeId) (n:Nat) (cs:Array Value):Value → World → Prop:=fun v w=>∃ g,v = .slice (some ⟨g,0,none⟩) n n ∧ w.heap[g]? = some (.cells cs e (0,0))
def isU8 (e:TypeId) (n:Nat) (l:List Int):Value → World → Prop:=fun v w=>∃ g,v = .slice (some ⟨g,0,none⟩) n n ∧ l.length = n ∧ w.heap[g]? = some (.cells (u8s l).toArray e (0,0))
variable {all:List Oper} {F:List (Value → World → Prop)} {o:Oper} {os:List Oper} {ds:List (Nat × Nat)} {D:List (List (Nat × Nat))}
theorem RunOk.new (e:TypeId) (n:Nat) (cs:Array Value) (h:∀ W,Below w0.heap.size w0 W → FillDeps F W ds a0 fun A=>wpList P ops (RPost o.dst (isNew e n cs) a0.defers W Q) [o] A W) (r:RunOk P ops a0 w0 Q all (F ++ [isNew e n cs]) os D) :
    RunOk P ops a0 w0 Q all F (o :: os) (ds :: D) :=
  ⟨_,fun _ _ _ hb ⟨g,hv,hg⟩=>⟨g,hv,by rw [hb.block g (Array.getElem?_eq_some_iff.1 hg).1];exact hg⟩,h,r⟩
theorem RunOk.u8 (e:TypeId) (n:Nat) (l:List Int) (h:∀ W,Below w0.heap.size w0 W → FillDeps F W ds a0 fun A=>wpList P ops (RPost o.dst (isU8 e n l) a0.defers W Q) [o] A W) (r:RunOk P ops a0 w0 Q all (F ++ [isU8 e n l]) os D) :
    RunOk P ops a0 w0 Q all F (o :: os) (ds :: D) :=
  ⟨_,fun _ _ _ hb ⟨g,hv,hl,hg⟩=>⟨g,hv,hl,by rw [hb.block g (Array.getElem?_eq_some_iff.1 hg).1];exact hg⟩,h,r⟩
end
end Go.Proofs.Ytfelbalkobcfhaa
