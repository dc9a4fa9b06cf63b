/- The rules of the walk over plain data. Plain theorems, no condition. -/
import Derived.Test.YtmcpcdmonglkjaaLB1
import Derived.Lib.AppendZerosOnto
import Derived.RangeFuncNested
import Derived.RangeFuncLeaves
import Derived.OrdersIn
import Derived.ArgAppend
import Derived.Scope
import Derived.Maps.RangeRun
set_option linter.unusedVariables false
set_option linter.unusedSimpArgs false
namespace Go.Proofs.Ytmcpcdmonglkjaa
open Go.RowKit
def sufB (ops:Array Oper) (n:Nat) (nxt:List Nat):Bool :=
  decide (ops.size ≤ n) || (List.range (ops.size - 1)).all fun j=>(let k:=nxt.getD j 0;decide (j < k) && decide (k ≤ if j < n then n else j + 1) &&
    match ops[k]? with
    | some o=>o.after.any fun e=>Region.binds .any e && e.on == j
    | none=>false)
theorem sufB.get {ops:Array Oper} {n:Nat} {nxt:List Nat} (h:sufB ops n nxt = true) (hn:n < ops.size) {j:Nat} (hj:j < ops.size - 1):∃ k o,j < k ∧ (k ≤ if j < n then n else j + 1) ∧ ops[k]? = some o ∧ ∃ e ∈ o.after,Region.binds .any e = true ∧ e.on = j:=by
  unfold sufB at h
  rw [decide_eq_false (by omega),Bool.false_or,List.all_eq_true] at h
  have:=h j (List.mem_range.2 hj)
  simp only [Bool.and_eq_true,decide_eq_true_eq] at this
  obtain ⟨⟨h1,h2⟩,h3⟩:=this
  cases ho:ops[nxt.getD j 0]? with
  | none=>rw [ho] at h3;cases h3
  | some o =>
    rw [ho] at h3
    simp only [Array.any_eq_true'] at h3
    obtain ⟨e,he,h4⟩:=h3
    simp only [Bool.and_eq_true,beq_iff_eq] at h4
    exact ⟨_,o,h1,h2,ho,e,he,h4.1,h4.2⟩
def c_m (ops:Array Oper) (listed:Array Bool):Prop:=∀ (i:Nat) (o:Oper),listed.getD i false = true → ops[i]? = some o → ∀ e ∈ o.after,Region.binds .any e = true → listed.getD e.on false = true
theorem sufB.before {ops:Array Oper} {n:Nat} {nxt:List Nat} (h:sufB ops n nxt = true) {listed:Array Bool} (hc:c_m ops listed) {i:Nat} {o:Oper} (ho:ops[i]? = some o) (hi:n ≤ i)
    (hall:∀ e ∈ o.after,Region.binds .any e = true → listed.getD e.on false = true):∀ d j,j + d + 1 = i → listed.getD j false = true:=by
  have hil:i < ops.size:=by
    rcases Nat.lt_or_ge i ops.size with h | h
    · exact h
    · rw [Array.getElem?_eq_none h] at ho;cases ho
  intro d
  induction d using Nat.strongRecOn with
  | ind d ih =>
    intro j hj
    obtain ⟨k,ok,h1,h2,hk,e,he,hb,hej⟩:=sufB.get h (by omega) (j:=j) (by omega)
    have hki:k ≤ i:=by
      split at h2 <;> omega
    rcases Nat.lt_or_ge k i with h3 | h3
    · have:=ih (i - k - 1) (by omega) k (by omega)
      have:=hc k ok this hk e he hb
      rwa [hej] at this
    · obtain rfl:k = i:=by omega
      rw [hk] at ho
      obtain rfl:=Option.some.inj ho
      have:=hall e he hb
      rwa [hej] at this
structure RInvP (R:World → World → Prop) (ops:Array Oper) (n:Nat) (F:Nat → Value → World → Prop) (a0:Act) (w0:World) (listed:Array Bool) (a:Act) (w:World):Prop where
  size:listed.size = ops.size
  tsize:a.tmps.size = a0.tmps.size
  defers:a.defers = a0.defers
  below:R w0 w
  keep:∀ t,(∀ (i:Nat) (o:Oper),i < n → ops[i]? = some o → o.dst ≠ some t) → a.tmps[t]? = a0.tmps[t]?
  done:∀ (i:Nat) (o:Oper) (d:Nat),listed.getD i false = true → ops[i]? = some o → o.dst = some d → ∃ v,a.tmps[d]? = some v ∧ F i v w
  doneN:∀ (i:Nat) (o:Oper),listed.getD i false = true → ops[i]? = some o → o.dst = none → F i undef w
  late:∀ i,n ≤ i → listed.getD i false = false
  closed:c_m ops listed
section
variable {R:World → World → Prop} {P:Program} {ops:Array Oper} {F:Nat → Value → World → Prop} {a0:Act} {w0:World} {Q:Exit → Act → World → Prop} {n:Nat}
theorem b_O {listed:Array Bool} {i:Nat} (h:i < listed.size):(listed.setIfInBounds i true).getD i false = true:=by
  simp [Array.getD_eq_getD_getElem?,h]
theorem d_x {ops:Array Oper} {n i:Nat} {o:Oper} {d:Nat} (hi:i < n) (h:ops[i]? = some o) (hd:o.dst = some d):d ∈ a_X (ops.toList.take n).toArray :=
  a_U (i:=i) (o:=o) (by
    have:(ops.toList.take n)[i]? = some o:=by rw [List.getElem?_take_of_lt hi];simpa using h
    simpa using this) hd
theorem RInvP.step (hR0:∀ w,R w w) (hRt:∀ a b c,R a b → R b c → R a c) (hB:a_z ops a0.tmps.size = true) (hst:∀ i v w w',R w w' → F i v w → F i v w')
    {listed:Array Bool} {a:Act} {w:World} {i:Nat} (hin:i < n) (hs:∀ o,ops[i]? = some o → c_E (a_X (ops.toList.take n).toArray) R P ops F a0 w0 Q i o) (h:RInvP R ops n F a0 w0 listed a w) (hi:i ∈ Region.ready .any ops listed) :
    wpOp P ops Q i (fun a' w'=>RInvP R ops n F a0 w0 (listed.setIfInBounds i true) a' w') a w:=by
  obtain ⟨hun,o,ho,hall⟩:=mem_ready.1 hi
  simp only [a_z,Bool.and_eq_true,decide_eq_true_eq,List.all_eq_true] at hB
  obtain ⟨⟨hnd,hlt⟩,_⟩:=hB
  have hstep:=hs o ho a w h.below h.defers h.tsize (fun t ht=>h.keep t fun i o hi ho hd=>ht (d_x hi ho hd)) (by
    have:∀ l:List Edge,(∀ e ∈ l,e ∈ o.after ∧ Region.binds .any e = true) → c_p ops F a w l:=by
      intro l
      induction l with
      | nil=>intro _;trivial
      | cons e es ih =>
        intro hl
        refine ⟨?_,ih fun x hx=>hl x (List.mem_cons_of_mem _ hx)⟩
        obtain ⟨he,hb⟩:=hl e (by simp)
        have hd:=hall e he hb
        cases hoe:ops[e.on]? with
        | none=>trivial
        | some oe =>
          cases hde:oe.dst with
          | none=>simp [hde]
          | some d=>simpa [hde] using h.done e.on oe d hd hoe hde
    exact this _ fun e he=>by
      rw [List.mem_filter] at he
      exact ⟨Array.mem_toList_iff.1 he.1,he.2⟩)
  have fin:∀ v w',(o.dst = none → v = undef) → F i v w' → R w w' → RInvP R ops n F a0 w0 (listed.setIfInBounds i true) (a.put o.dst v) w':=by
    intro v w' hnone hv hb
    have tk:∀ t,o.dst ≠ some t → (a.put o.dst v).tmps[t]? = a.tmps[t]?:=by
      intro t hne
      cases hd:o.dst with
      | none=>rfl
      | some d =>
        have:d ≠ t:=fun e=>hne (by rw [hd,e])
        simp [Act.put,Array.getElem?_setIfInBounds_ne this]
    refine ⟨by simpa using h.size,?_,?_,hRt _ _ _ h.below hb,fun t ht=>?_,fun j p d hj hp hd=>?_,fun j p hj hp hd=>?_,fun j hj=>?_,fun j p hj hp e he hb=>?_⟩
    · cases hd:o.dst <;> simp [Act.put,h.tsize]
    · cases hd:o.dst <;> simp [Act.put,h.defers]
    · rw [tk t (ht i o hin ho),h.keep t ht]
    · by_cases hij:i = j
      · subst hij
        rw [ho] at hp
        obtain rfl:=Option.some.inj hp
        refine ⟨v,?_,hv⟩
        have:d < a.tmps.size:=by
          rw [h.tsize]
          exact hlt d (a_U ho hd)
        simp [Act.put,hd,this]
      · rw [show (listed.setIfInBounds i true).getD j false = listed.getD j false from getD_set_ne false hij] at hj
        obtain ⟨u,hu,hF⟩:=h.done j p d hj hp hd
        refine ⟨u,?_,hst _ _ _ _ hb hF⟩
        rw [tk d (fun e=>hij (b_Q ops.toList hnd i j o p d (by simpa using ho) (by simpa using hp) e hd))]
        exact hu
    · by_cases hij:i = j
      · subst hij
        rw [ho] at hp
        obtain rfl:=Option.some.inj hp
        rw [← hnone hd]
        exact hv
      · rw [show (listed.setIfInBounds i true).getD j false = listed.getD j false from getD_set_ne false hij] at hj
        exact hst _ _ _ _ hb (h.doneN j p hj hp hd)
    · rw [show (listed.setIfInBounds i true).getD j false = listed.getD j false from getD_set_ne false (by omega)]
      exact h.late j hj
    · have keep:∀ m,listed.getD m false = true → (listed.setIfInBounds i true).getD m false = true:=fun m hm=>by
        by_cases him:i = m
        · subst him
          exact b_O (by
            rcases Nat.lt_or_ge i listed.size with h1 | h1
            · exact h1
            · simp [Array.getD_eq_getD_getElem?,Nat.not_lt.2 h1] at hm)
        · rw [show (listed.setIfInBounds i true).getD m false = listed.getD m false from getD_set_ne false him]
          exact hm
      refine keep _ ?_
      by_cases hij:i = j
      · subst hij
        rw [ho] at hp
        obtain rfl:=Option.some.inj hp
        exact hall e he hb
      · rw [show (listed.setIfInBounds i true).getD j false = listed.getD j false from getD_set_ne false hij] at hj
        exact h.closed j p hj hp e he hb
  unfold wpOp
  simp only [ho]
  split
  · rename_i hw
    rw [if_pos hw] at hstep
    exact hstep.imp (Oper.wp_mono (fun a' w' ⟨v,e,hn,hv,hb⟩=>by subst e;exact fin v w' hn hv hb)) id
  · rename_i hw
    rw [if_neg hw] at hstep
    exact fin undef w (fun _=>rfl) hstep (hR0 _)
theorem RInvP.finish (hB:a_z ops a0.tmps.size = true) {listed:Array Bool} {a:Act} {w:World} (h:RInvP R ops n F a0 w0 listed a w) (hall:∀ i,i < n → i < ops.size → listed.getD i false = true)
    {K:Act → Prop} (hend:b_F F w K 0 (ops.toList.take n) a0):K a:=by
  have hB':=hB
  simp only [a_z,Bool.and_eq_true,decide_eq_true_eq,List.all_eq_true] at hB'
  obtain ⟨⟨hnd,hlt⟩,_⟩:=hB'
  have key:∀ (l:List Oper) (k:Nat) (b:Act),(∀ j,l[j]? = (ops.toList.take n)[k + j]?) → b.tmps.size = a.tmps.size → b.defers = a.defers →
      (∀ t,(∀ (j:Nat) (o:Oper),l[j]? = some o → o.dst ≠ some t) → b.tmps[t]? = a.tmps[t]?) → b_F F w K k l b → K a:=by
    intro l
    induction l with
    | nil =>
      intro k b _ hs hd ht he
      have:b = a:=by
        obtain ⟨bt,bd⟩:=b
        obtain ⟨at_,ad⟩:=a
        simp only at hd
        subst hd
        have:bt = at_:=Array.ext_getElem? fun t=>ht t (fun j o hj=>by simp at hj)
        rw [this]
      rw [← this]
      exact he
    | cons o l ih =>
      intro k b hl hs hd ht he
      have h00:(ops.toList.take n)[k]? = some o:=by simpa using (hl 0).symm
      have hkn:k < n:=by
        rcases Nat.lt_or_ge k n with h1 | h1
        · exact h1
        · rw [List.getElem?_take_eq_none h1] at h00;cases h00
      have h0:ops[k]? = some o:=by
        rw [List.getElem?_take_of_lt hkn] at h00
        simpa using h00
      have hl':∀ j,l[j]? = (ops.toList.take n)[k + 1 + j]?:=fun j=>by have:=hl (j + 1);rw [Nat.add_assoc,Nat.add_comm 1 j];exact this
      have hlk:listed.getD k false = true:=hall k hkn (by
        rcases Nat.lt_or_ge k ops.size with hk | hk
        · exact hk
        · rw [Array.getElem?_eq_none hk] at h0;cases h0)
      unfold b_F at he
      cases hod:o.dst with
      | none =>
        rw [hod] at he
        have he:=he (h.doneN k o hlk h0 hod)
        exact ih (k + 1) b hl' hs hd (fun t hn=>ht t (fun j p hj=>by
          match j,hj with
          | 0,hj=>simp at hj;subst hj;simp [hod]
          | j + 1,hj=>exact hn j p (by simpa using hj))) he
      | some d =>
        rw [hod] at he
        obtain ⟨v,hv,hF⟩:=h.done k o d hlk h0 hod
        refine ih (k + 1) (b.put (some d) v) hl' (by simp [Act.put,hs]) (by simp [Act.put,hd]) (fun t hn=>?_) (he v hF)
        by_cases hdt:d = t
        · subst hdt
          have hlt':d < b.tmps.size:=by rw [hs,h.tsize];exact hlt d (a_U h0 hod)
          simp [Act.put,hlt',hv]
        · simp only [Act.put]
          rw [Array.getElem?_setIfInBounds_ne hdt]
          refine ht t (fun j p hj=>?_)
          match j,hj with
          | 0,hj=>simp at hj;subst hj;simpa [hod] using hdt
          | j + 1,hj=>exact hn j p (by simpa using hj)
  refine key (ops.toList.take n) 0 a0 (by simp) h.tsize.symm h.defers.symm (fun t hn=>(h.keep t (fun i o hi ho hd=>?_)).symm) hend
  exact hn i o (by rw [List.getElem?_take_of_lt hi];simpa using ho) hd
theorem c_x {listed:Array Bool} {a:Act} {w:World} {k:Nat} (hl:listed.size = ops.size) (hk:∀ i,listed.getD i false = true ↔ i < k ∧ i < ops.size) (hw:wpList P ops Q (ops.toList.drop k) a w) {o:Oper} (ho:ops[k]? = some o) :
    wpOp P ops Q k (fun a' w'=>(listed.setIfInBounds k true).size = ops.size ∧ (∀ i,(listed.setIfInBounds k true).getD i false = true ↔ i < k + 1 ∧ i < ops.size) ∧ wpList P ops Q (ops.toList.drop (k + 1)) a' w') a w:=by
  have hks:k < ops.size:=by
    rcases Nat.lt_or_ge k ops.size with h | h
    · exact h
    · rw [Array.getElem?_eq_none h] at ho;cases ho
  have hd:ops.toList.drop k = o :: ops.toList.drop (k + 1):=by
    rw [List.drop_eq_getElem_cons (by simpa using hks)]
    congr 1
    have:ops.toList[k]? = some o:=by simpa using ho
    rw [List.getElem?_eq_getElem (by simpa using hks)] at this
    exact Option.some.inj this
  have h1:(listed.setIfInBounds k true).size = ops.size:=by simpa using hl
  have h2:∀ i,(listed.setIfInBounds k true).getD i false = true ↔ i < k + 1 ∧ i < ops.size:=by
    intro i
    by_cases hik:k = i
    · subst hik
      rw [b_O (by omega)]
      exact ⟨fun _=>⟨by omega,hks⟩,fun _=>rfl⟩
    · rw [show (listed.setIfInBounds k true).getD i false = listed.getD i false from getD_set_ne false hik,hk i]
      constructor
      · rintro ⟨h,h'⟩;exact ⟨by omega,h'⟩
      · rintro ⟨h,h'⟩;exact ⟨by omega,h'⟩
  rw [hd] at hw
  unfold wpList at hw
  unfold wpOp
  simp only [ho]
  split
  · rename_i hw1
    rw [if_pos hw1] at hw
    exact hw.imp (Oper.wp_mono fun a' w' h=>⟨h1,h2,h⟩) id
  · rename_i hw1
    rw [if_neg hw1] at hw
    exact ⟨h1,h2,hw⟩
theorem RunAll.get {E:List Nat} {Fs:List (Value → World → Prop)} (hB:a_z ops a0.tmps.size = true) (hsel:Region.noSelect ops = true):∀ (l:List Oper) (k:Nat) (D:List (List (Nat × Nat))),
    (∀ j o,l[j]? = some o → ops[k + j]? = some o) → a_5 E ops l D = true → RunAll R P ops a0 w0 Q Fs k l D → ∀ j o,l[j]? = some o → c_E E R P ops (fun i=>Fs.getD i (fun _ _=>True)) a0 w0 Q (k + j) o
  | [],_,_,_,_,_,j,o,h=>by simp at h
  | x :: l,k,[],_,_,h,_,_,_=>h.elim
  | x :: l,k,ds :: D,hl,hD,h,j,o,hj=>by
    simp only [a_5,Bool.and_eq_true] at hD
    match j,hj with
    | 0,hj =>
      simp at hj
      subst hj
      exact c_V (F:=Fs) (f:=nthF Fs k) hB hsel (hl 0 _ (by simp)) hD.1 (fun p _=>rfl) (b_H Fs k) fun W hW=>FillE.deps ds a0 (h.1 W hW)
    | j + 1,hj =>
      have:=RunAll.get hB hsel l (k + 1) D (fun i p hp=>by have:=hl (i + 1) p (by simpa using hp);simpa [Nat.add_assoc,Nat.add_comm 1 i] using this) hD.2 h.2 j o (by simpa using hj)
      rwa [Nat.add_assoc,Nat.add_comm 1 j] at this
theorem d_c {K:Nat → Prop} {l:List Oper} (n:Nat) (nxt:List Nat) (hR:Rel K R) (Fs:List (Value → World → Prop)) (D:List (List (Nat × Nat))) (hm:P.follows .mixedOrders = true) (hB:a_z l.toArray a0.tmps.size = true) (hsel:Region.noSelect l.toArray = true) (hsuf:sufB l.toArray n nxt = true)
    (hD:a_5 (a_X (l.take n).toArray) l.toArray (l.take n) D = true) (hlen:Fs.length = (l.take n).length) (hst:StabL R Fs) (h:RunAll R P l.toArray a0 w0 Q Fs 0 (l.take n) D) (hend:∀ W,R w0 W → EndE W (fun a=>wpList P l.toArray Q (l.drop n) a W) Fs (l.take n) a0):e_d P l Q a0 w0:=by
  unfold e_d
  have hst':∀ (i:Nat) v w w',R w w' → (fun i=>Fs.getD i (fun _ _=>True)) i v w → (fun i=>Fs.getD i (fun _ _=>True)) i v w':=by
    intro i v w w' hb hF
    simp only [List.getD_eq_getElem?_getD] at hF ⊢
    cases hi:Fs[i]? with
    | none=>trivial
    | some f=>rw [hi] at hF;exact hst.all f (List.mem_of_getElem? hi) v w w' hb hF
  have hs:∀ i o,i < n → l.toArray[i]? = some o → c_E (a_X (l.take n).toArray) R P l.toArray (fun i=>Fs.getD i (fun _ _=>True)) a0 w0 Q i o:=by
    intro i o hi ho
    have:=RunAll.get hB hsel (l.take n) 0 D (fun j p hp=>by
      rcases Nat.lt_or_ge j n with h1 | h1
      · rw [List.getElem?_take_of_lt h1] at hp;simpa using hp
      · rw [List.getElem?_take_eq_none h1] at hp;cases hp) hD h i o (by rw [List.getElem?_take_of_lt hi];simpa using ho)
    rwa [Nat.zero_add] at this
  have hac:∀ (i:Nat) (o:Oper),l.toArray[i]? = some o → ∀ e ∈ o.after,Region.binds .any e = true → e.on < i:=by
    have hB':=hB
    simp only [a_z,Bool.and_eq_true,decide_eq_true_eq,List.all_eq_true] at hB'
    intro i o ho e he hb
    have:=hB'.2 (o,i) (by
      rw [List.mem_zipIdx_iff_getElem?]
      simpa using ho)
    simp only [Array.all_eq_true_iff_forall_mem] at this
    have:=this e he
    simpa [hb] using this
  have hfin:∀ {listed:Array Bool} {a:Act} {w:World},RInvP R l.toArray n (fun i=>Fs.getD i (fun _ _=>True)) a0 w0 listed a w → (∀ i,i < n → i < l.toArray.size → listed.getD i false = true) → wpList P l.toArray Q (l.toArray.toList.drop n) a w:=by
    intro listed a w hi hall
    refine RInvP.finish hB hi hall (K:=fun a=>wpList P l.toArray Q (l.toArray.toList.drop n) a w) ?_
    exact EndE.ok Fs _ 0 (l.take n) a0 hlen (fun j=>by rw [Nat.zero_add];exact b_H Fs j) (hend w hi.below)
  refine c_C (I:=fun listed a w=>RInvP R l.toArray n (fun i=>Fs.getD i (fun _ _=>True)) a0 w0 listed a w ∨ ∃ k,n ≤ k ∧ listed.size = l.toArray.size ∧ (∀ i,listed.getD i false = true ↔ i < k ∧ i < l.toArray.size) ∧ wpList P l.toArray Q (l.toArray.toList.drop k) a w)
    (fun listed a w i hI hi=>?_) (fun listed a w hI hr=>?_) _ _ _ _ ?_ ?_
  · obtain ⟨hun,o,ho,hall⟩:=mem_ready.1 hi
    rcases hI with hI | ⟨k,hnk,hsz,hk,hw⟩
    · rcases Nat.lt_or_ge i n with hin | hin
      · exact wpOp_mono (fun a w h=>.inl h) (RInvP.step hR.refl hR.trans hB hst' hin (fun o ho=>hs i o hin ho) hI hi)
      · have hbefore:∀ j,j < i → listed.getD j false = true:=fun j hj=>sufB.before hsuf hI.closed ho hin hall (i - j - 1) j (by omega)
        have hi_n:i = n:=by
          rcases Nat.lt_or_ge n i with h1 | h1
          · have:=hbefore n h1
            rw [hI.late n (Nat.le_refl n)] at this
            cases this
          · omega
        subst hi_n
        have hw:=hfin hI (fun j hj _=>hbefore j hj)
        refine wpOp_mono (fun a w h=>.inr ⟨i + 1,by omega,h⟩) (c_x hI.size (fun j=>⟨fun hj=>?_,fun hj=>hbefore j hj.1⟩) hw ho)
        constructor
        · rcases Nat.lt_or_ge j i with h1 | h1
          · exact h1
          · rw [hI.late j h1] at hj;cases hj
        · rcases Nat.lt_or_ge j l.toArray.size with h1 | h1
          · exact h1
          · have:listed.size ≤ j:=by rw [hI.size];exact h1
            simp [Array.getD_eq_getD_getElem?,Nat.not_lt.2 this] at hj
    · have hil:i < l.toArray.size:=by
        rcases Nat.lt_or_ge i l.toArray.size with h | h
        · exact h
        · rw [Array.getElem?_eq_none h] at ho;cases ho
      have hki:k ≤ i:=by
        rcases Nat.lt_or_ge i k with h1 | h1
        · have:=(hk i).2 ⟨h1,hil⟩
          rw [(unlisted_lt hi).2] at this
          cases this
        · exact h1
      have:i = k:=by
        rcases Nat.lt_or_ge k i with h1 | h1
        · have hcl:c_m l.toArray listed:=fun j p hj hp e he hb=>(hk _).2 (by
            have:=(hk j).1 hj
            have:=hac j p hp e he hb
            omega)
          have:=(hk k).1 (sufB.before hsuf hcl ho (by omega) hall (i - k - 1) k (by omega))
          omega
        · omega
      subst this
      exact wpOp_mono (fun a w h=>.inr ⟨i + 1,by omega,h⟩) (c_x hsz hk hw ho)
  · rcases hI with hI | ⟨k,hnk,hsz,hk,hw⟩
    · have hall:=b_E hI.size hac hr
      have hw:=hfin hI (fun i _ hi=>hall i hi)
      have:l.toArray.toList.drop n = []:=by
        rw [List.drop_eq_nil_iff]
        rcases Nat.lt_or_ge n l.toArray.size with h1 | h1
        · have:=hall n h1
          rw [hI.late n (Nat.le_refl n)] at this
          cases this
        · simpa using h1
      rw [this] at hw
      exact hw
    · have hall:=b_E hsz hac hr
      have:l.toArray.toList.drop k = []:=by
        rw [List.drop_eq_nil_iff]
        rcases Nat.lt_or_ge k l.toArray.size with h1 | h1
        · have:=(hk k).1 (hall k h1)
          omega
        · simpa using h1
      rw [this] at hw
      exact hw
  · refine Nat.le_trans (List.length_filter_le _ _) (by simp)
  · have hf:∀ i,(Array.replicate l.toArray.size false).getD i false = false:=fun i=>by
      rcases Nat.lt_or_ge i l.length with hi | hi
      · simp [Array.getD_eq_getD_getElem?,hi]
      · simp [Array.getD_eq_getD_getElem?,Nat.not_lt.2 hi]
    refine .inl ⟨by simp,rfl,rfl,hR.drawn _,fun _ _=>rfl,fun i o d hl=>?_,fun i o hl=>?_,fun i _=>hf i,fun i o hl=>?_⟩
    · rw [hf i] at hl;cases hl
    · rw [hf i] at hl;cases hl
    · rw [hf i] at hl;cases hl
theorem b_s {K:Nat → Prop} {id:Nat} {l:List Oper} (n:Nat) (nxt:List Nat) (hR:Rel K R) (Fs:List (Value → World → Prop)) (D:List (List (Nat × Nat))) (hm:P.follows .mixedOrders = true) (hB:a_z l.toArray a0.tmps.size = true) (hsel:Region.noSelect l.toArray = true) (hsuf:sufB l.toArray n nxt = true)
    (hD:a_5 (a_X (l.take n).toArray) l.toArray (l.take n) D = true) (hlen:Fs.length = (l.take n).length) (hst:StabL R Fs) (h:RunAll R P l.toArray a0 w0 Q Fs 0 (l.take n) D) (hend:∀ W,R w0 W → EndE W (fun a=>wpList P l.toArray Q (l.drop n) a W) Fs (l.take n) a0):(Code.region id l.toArray true).wp P Q a0 w0:=wp_region_any hm (d_c n nxt hR Fs D hm hB hsel hsuf hD hlen hst h hend)
end
structure Sto2 (t:GT) (T:TypeId) (K:Nat → Prop) (g:Nat) (xo xn:PT t) (w w':World):Prop where
  os:w'.os = w.os
  tape:w'.tape = w.tape
  output:w'.output = w.output
  size:w.heap.size ≤ w'.heap.size
  block:∀ k,k < w.heap.size → k ≠ g → w'.heap[k]? = w.heap[k]?
  two:Bx t T w K g xo ∨ Bx t T w K g xn → Bx t T w' K g xo ∨ Bx t T w' K g xn
  new:Bx t T w K g xn → Bx t T w' K g xn
theorem Sto2.rel {t:GT} {T:TypeId} {K:Nat → Prop} {g:Nat} {xo xn:PT t} (hg:¬ K g):Rel K (Sto2 t T K g xo xn) :=
  ⟨fun w=>⟨rfl,rfl,rfl,Nat.le_refl _,fun _ _ _=>rfl,id,id⟩,
   fun a b c h k=>⟨k.os.trans h.os,k.tape.trans h.tape,k.output.trans h.output,Nat.le_trans h.size k.size,fun i hi hne=>(k.block i (Nat.lt_of_lt_of_le hi h.size) hne).trans (h.block i hi hne),fun e=>k.two (h.two e),fun e=>k.new (h.new e)⟩,
   fun w=>⟨rfl,rfl,rfl,Nat.le_refl _,fun _ _ _=>rfl,fun h=>h.imp (fun h=>h.step ⟨rfl,rfl,rfl,Nat.le_refl _,fun _ _=>rfl⟩) (fun h=>h.step ⟨rfl,rfl,rfl,Nat.le_refl _,fun _ _=>rfl⟩),fun h=>h.step ⟨rfl,rfl,rfl,Nat.le_refl _,fun _ _=>rfl⟩⟩,
   fun a b h=>⟨h.os,h.tape,h.output,h.size,h.size,fun p hp hk=>World.cell?_of_block (h.block p.block hp fun e=>hg (e ▸ hk))⟩,
   fun a b h=>⟨h.os,h.tape,h.output,h.size,fun k hk _=>h.block k hk,fun e=>e.imp (fun e=>e.step h) (fun e=>e.step h),fun e=>e.step h⟩⟩
section
variable {w0 w w':World} {L:List (Option Nat)} {K:Nat → Prop} {n b:Nat} {t:GT}
theorem Sto2.wd {T:TypeId} {g:Nat} {xo xn:PT t} {K':Nat → Prop} (h:Wd w0 w L) (hs:Sto2 t T K' g xo xn w w') (hg:some g ∈ L):Wd w0 w' L :=
  ⟨h.below.trans ⟨hs.os,hs.tape,hs.output,hs.size,fun k hk=>hs.block k (by have:=h.below.size;omega) (by have:=(h.own g hg).1;omega)⟩,fun c hm=>⟨(h.own c hm).1,by have:=(h.own c hm).2;have:=hs.size;omega⟩,h.dis⟩
theorem Sto2.bx {T T2:TypeId} {g:Nat} {xo xn:PT t} {t2:GT} {x:PT t2} (h:Bx t2 T2 w K b x) (hs:Sto2 t T K g xo xn w w') (hK:¬ K g) (hne:b ≠ g):Bx t2 T2 w' K b x:=by
  have hl:=h.lt
  obtain ⟨cs,h1,h2⟩:=h
  exact ⟨cs,(hs.block b hl hne).trans h1,h2.keep ((Sto2.rel (t:=t) (T:=T) (xo:=xo) (xn:=xn) hK).lv _ _ hs).keep fun _ _ h=>h⟩
end
end Go.Proofs.Ytmcpcdmonglkjaa
namespace Go.Proofs.Ytmcpcdmonglkjaa
open Go.RowKit
def Fine:(t:GT) → PT t → Prop
  | .int k,x=>InR k x
  | .bool,_=>True
  | .str,x=>Byt x ∧ x.length ≤ 9223372036854775807
  | .sl e,x=>x.xs.length ≤ 9223372036854775807 ∧ (∀ k,x.cap = some k → x.xs.length ≤ k ∧ k ≤ 9223372036854775807) ∧ ∀ y ∈ x.xs,Fine e y
  | .st f,x=>Fine f x
  | .pair a b,x=>Fine a x.1 ∧ Fine b x.2
  | .arr n e,x=>x.length = n ∧ ∀ y ∈ x,Fine e y
  | .raw,_=>True
theorem RepCs.fine {w:World} {K:Nat → Prop}:∀ {t:GT} {cs} {x:PT t},RepCs t w K cs x → Fine t x
  | .int _,_,_,h=>h.2
  | .bool,_,_,h=>trivial
  | .str,_,_,h=>h.2
  | .sl e,_,x,⟨A,n,c,h0,h1,h2,h3,h4,h5⟩=>⟨by omega,fun k hk=>by have:=h4 k hk;omega,fun y hy=>by
      rcases h5 with h6 | ⟨b,off,_,_,_,h6⟩
      · rw [h6] at hy;cases hy
      · obtain ⟨j,hj⟩:=List.getElem?_of_mem hy
        obtain ⟨cs,h7,_⟩:=h6 j y hj
        exact RepCs.fine (t:=e) h7⟩
  | .st f,_,_,h=>RepCs.fine (t:=f) h
  | .pair a b,_,_,⟨c1,c2,h,h1,h2⟩=>⟨RepCs.fine (t:=a) h1,RepCs.fine (t:=b) h2⟩
  | .arr n e,_,x,⟨hx,css,h,hl,hr⟩=>⟨hx,fun y hy=>by
      obtain ⟨j,hj⟩:=List.getElem?_of_mem hy
      have hlt:j < x.length:=(List.getElem?_eq_some_iff.1 hj).1
      exact RepCs.fine (t:=e) (hr j _ y (List.getElem?_eq_getElem (by omega)) hj)⟩
  | .raw,_,_,h=>trivial
theorem RepV.fine {w:World} {K:Nat → Prop} {t:GT} {v:Value} {x:PT t} (h:RepV t w K v x):Fine t x:=by
  obtain ⟨cs,h1,_⟩:=h
  exact h1.fine
end Go.Proofs.Ytmcpcdmonglkjaa
namespace Go.Proofs.Ytmcpcdmonglkjaa
open Go.RowKit
@[reducible] def rawAt:GT → Nat → GT
  | .pair _ b,0=>.pair .raw b
  | .pair a b,k + 1=>.pair a (rawAt b k)
  | .int _,_=>.raw
  | .bool,_=>.raw
  | .str,_=>.raw
  | .sl _,_=>.raw
  | .st _,_=>.raw
  | .arr _ _,_=>.raw
  | .raw,_=>.raw
@[reducible] def d_S:(t:GT) → (k:Nat) → Value → PT t → PT (rawAt t k)
  | .pair _ _,0,v,x=>(v,x.2)
  | .pair _ b,k + 1,v,x=>(x.1,d_S b k v x.2)
  | .int _,_,v,_=>v
  | .bool,_,v,_=>v
  | .str,_,v,_=>v
  | .sl _,_,v,_=>v
  | .st _,_,v,_=>v
  | .arr _ _,_,v,_=>v
  | .raw,_,v,_=>v
@[reducible] def d_5:GT → Bool
  | .sl _=>true
  | _=>false
theorem RepCs.unraw {w:World} {K:Nat → Prop} {v:Value}:∀ {t:GT} (k:Nat) {cs:List Value} (x:PT t),d_5 (comp t k) = true → RepCs (rawAt t k) w K cs (d_S t k v x) → RepV (comp t k) w K v (proj t k x) → RepCs t w K cs x
  | .pair (.sl e) b,0,cs,x,_,⟨c1,c2,h,h1,h2⟩,hv=>by
    obtain ⟨rfl,_⟩:=h1
    obtain ⟨cs,⟨A,n,c,rfl,h3⟩,rfl⟩:=hv
    exact ⟨[_],c2,h,⟨A,n,c,rfl,h3⟩,h2⟩
  | .pair a b,k + 1,cs,x,hs,⟨c1,c2,h,h1,h2⟩,hv=>⟨c1,c2,h,h1,RepCs.unraw (t:=b) k x.2 hs h2 hv⟩
  | .sl e,k,cs,x,_,h,hv=>by
    obtain ⟨rfl,_⟩:=h
    obtain ⟨cs,⟨A,n,c,rfl,h3⟩,rfl⟩:=hv
    exact ⟨A,n,c,rfl,h3⟩
  | .pair (.int _) _,0,_,_,hs,_,_=>by cases hs
  | .pair .bool _,0,_,_,hs,_,_=>by cases hs
  | .pair .str _,0,_,_,hs,_,_=>by cases hs
  | .pair (.st _) _,0,_,_,hs,_,_=>by cases hs
  | .pair (.pair _ _) _,0,_,_,hs,_,_=>by cases hs
  | .pair (.arr _ _) _,0,_,_,hs,_,_=>by cases hs
  | .pair .raw _,0,_,_,hs,_,_=>by cases hs
  | .int _,_,_,_,hs,_,_=>by cases hs
  | .bool,_,_,_,hs,_,_=>by cases hs
  | .str,_,_,_,hs,_,_=>by cases hs
  | .st _,_,_,_,hs,_,_=>by cases hs
  | .arr _ _,_,_,_,hs,_,_=>by cases hs
  | .raw,_,_,_,hs,_,_=>by cases hs
section
variable {w:World} {K:Nat → Prop} {b n:Nat} {f:GT} {T:TypeId} {L:List (Option Nat)}
theorem Bx.unraw (k:Nat) {v:Value} (x:PT f) (hs:d_5 (comp f k) = true) (h:Bx (.st (rawAt f k)) T w K b (d_S f k v x)) (hv:RepV (comp f k) w K v (proj f k x)):Bx (.st f) T w K b x:=by
  obtain ⟨cs,h1,h2⟩:=h
  exact ⟨cs,h1,RepCs.unraw (t:=f) k x hs h2 hv⟩
theorem RepV.rawEq {v x:Value} (h:RepV .raw w K v x):v = x:=by
  obtain ⟨cs,⟨rfl,_⟩,rfl⟩:=h
  rfl
theorem Ow.raw {e:GT} {E:TypeId} {xs:List (PT e)} {c:Option Nat} {v:Value} (h:Ow e E w n K v xs c):∀ {K':Nat → Prop},RepV .raw w K' v v:=by
  obtain ⟨cs,h1,h2,h3⟩:=h
  rcases h1.2 with ⟨rfl,hcs⟩ | ⟨g,cap,cur,rfl,hb⟩
  · exact ⟨[_],⟨rfl,rfl⟩,rfl⟩
  · exact ⟨[_],⟨rfl,rfl⟩,rfl⟩
end
end Go.Proofs.Ytmcpcdmonglkjaa
namespace Go.Proofs.Ytmcpcdmonglkjaa
open Go.RowKit
structure NewO (w w':World) (o:Option Nat):Prop where
  below:Below w.heap.size w w'
  ge:∀ b,o = some b → w.heap.size ≤ b
  lt:∀ b,o = some b → b < w'.heap.size
section
variable {w0 w w':World} {L:List (Option Nat)} {K:Nat → Prop} {n b:Nat} {t:GT} {o:Option Nat}
theorem Kx.newO {c:Nat} (hN:NewO w w' o) (hc:c < w.heap.size) (hk:Kx K n L c):Kx K n (o :: L) c:=⟨hk.1,fun hm=>by
  rcases List.mem_cons.1 hm with e | hm
  · have:=hN.ge c e.symm;omega
  · exact hk.2 hm⟩
theorem RepV.newO {u:Value} {x:PT t} (h:RepV t w (Kx K n L) u x) (hN:NewO w w' o):RepV t w' (Kx K n (o :: L)) u x:=h.keep (Keeps.below hN.below) fun c hc hk=>Kx.newO hN hc hk
theorem Bx.newO {T:TypeId} {x:PT t} (h:Bx t T w (Kx K n L) b x) (hN:NewO w w' o):Bx t T w' (Kx K n (o :: L)) b x:=by
  have hl:=h.lt
  obtain ⟨cs,h1,h2⟩:=h
  exact ⟨cs,(hN.below.block b hl).trans h1,h2.keep (Keeps.below hN.below) fun d hc hk=>Kx.newO hN hc hk⟩
theorem Ow.newO {e:GT} {E:TypeId} {v:Value} {xs:List (PT e)} {c:Option Nat} (h:Ow e E w n (Kx K n L) v xs c) (hN:NewO w w' o):Ow e E w' n (Kx K n (o :: L)) v xs c:=by
  obtain ⟨cs,h1,h2,h3⟩:=h
  exact ⟨cs,h1.kept (row:=.none) ⟨hN.below.os,hN.below.tape,hN.below.output,hN.below.size,fun k hk _=>hN.below.block k hk⟩ (by cases hv:v.ownBlock <;> simp),h2.keep (Keeps.below hN.below) fun d hc hk=>Kx.newO hN hc hk,h3⟩
theorem Wd.newO (h:Wd w0 w L) (hN:NewO w w' o):Wd w0 w' (o :: L):=by
  have hs:=hN.below.size
  refine ⟨h.below.trans (hN.below.mono h.below.size),fun c hm=>?_,List.pairwise_cons.2 ⟨fun x hx=>?_,h.dis⟩⟩
  · rcases List.mem_cons.1 hm with e | hm
    · have:=hN.ge c e.symm;have:=hN.lt c e.symm;have:=h.below.size;exact ⟨by omega,by omega⟩
    · have:=h.own c hm;exact ⟨this.1,by omega⟩
  · cases ho:o with
    | none=>exact .inl rfl
    | some b =>
      refine .inr fun e=>?_
      have:=(h.own b (e ▸ hx)).2
      have:=hN.ge b ho
      omega
theorem b_C {e:GT} {E:TypeId} {v:Value} {xs:List (PT e)} {c:Option Nat} {m:Nat} {K':Nat → Prop} (h:Ow e E w' m K' v xs c) (hm:w.heap.size ≤ m) (hb:Below w.heap.size w w'):NewO w w' v.ownBlock:=by
  obtain ⟨cs,h1,_⟩:=h
  exact ⟨hb,fun b hv=>Nat.le_trans hm (h1.lt b hv).1,fun b hv=>(h1.lt b hv).2⟩
theorem Kx.backO {c:Nat} (hW:Wd w0 w L) (hk:Kx (Kx K w0.heap.size L) w.heap.size [o] c):Kx K w0.heap.size (o :: L) c:=by
  obtain ⟨h1,h2⟩:=hk
  have h2':some c ≠ o:=fun e=>h2 (by rw [e];exact List.mem_cons_self ..)
  rcases h1 with h1 | h1
  · exact ⟨h1.1,fun hm=>by
      rcases List.mem_cons.1 hm with e | hm
      · exact h2' e
      · exact h1.2 hm⟩
  · refine ⟨.inr (by have:=hW.below.size;omega),fun hm=>?_⟩
    rcases List.mem_cons.1 hm with e | hm
    · exact h2' e
    · have:=(hW.own c hm).2;omega
theorem RepV.backO {u:Value} {x:PT t} (h:RepV t w' (Kx (Kx K w0.heap.size L) w.heap.size [o]) u x) (hW:Wd w0 w L):RepV t w' (Kx K w0.heap.size (o :: L)) u x:=h.keep (Keeps.refl _ _) fun c _ hk=>Kx.backO hW hk
theorem Ow.backO {e:GT} {E:TypeId} {v:Value} {xs:List (PT e)} {c:Option Nat} (h:Ow e E w' w.heap.size (Kx (Kx K w0.heap.size L) w.heap.size [o]) v xs c) (hW:Wd w0 w L):Ow e E w' w0.heap.size (Kx K w0.heap.size (o :: L)) v xs c:=by
  obtain ⟨cs,h1,h2,h3⟩:=h
  refine ⟨cs,⟨h1.1,?_⟩,h2.keep (Keeps.refl _ _) fun c _ hk=>Kx.backO hW hk,h3⟩
  rcases h1.2 with h4 | ⟨g,cap,cur,e1,e2,e3⟩
  · exact .inl h4
  · exact .inr ⟨g,cap,cur,e1,by have:=hW.below.size;omega,e3⟩
theorem Ow.pub0 {e:GT} {E:TypeId} {v:Value} {xs:List (PT e)} {c:Option Nat} (h:Ow e E w n (Kx K n [v.ownBlock]) v xs c):RepV (.sl e) w (Kx K n []) v ⟨xs,c⟩:=h.pub (List.nil_sublist _) fun _ _ hm=>(List.not_mem_nil hm).elim
theorem RepV.lessO {u:Value} {x:PT t} (h:RepV t w (Kx K n L) u x) (i:Nat) (hi:L[i]? = some o):RepV t w (Kx K n [o]) u x:=h.less (List.singleton_sublist.2 (List.mem_of_getElem? hi))
theorem Ow.lessO {e:GT} {E:TypeId} {v:Value} {xs:List (PT e)} {c:Option Nat} (h:Ow e E w n (Kx K n L) v xs c) (i:Nat) (hi:L[i]? = some o):Ow e E w n (Kx K n [o]) v xs c:=h.less (List.singleton_sublist.2 (List.mem_of_getElem? hi))
end
theorem c_c {P:Program} (w:World) (base:Nat) (t tn ty e:TypeId) (i:TypeInfo) (z:Value) (kn kq:IntKind) (ht:P.underlying t = some (.slice e)) (htn:P.underlying tn = some (.int kn)) (hi:P.info? e = some i) (hz:i.zero = some z)
    (hzs:z.cells.size = i.size) (hsz:0 < i.size) (hone:∀ u ∈ z.cells.toList,u.oneCell' = true)
    (v:Value) (n:Nat) (xs:List Value) (hown:w.ownsRow base e i.size v n xs)
    (m:Nat) (h63:n + m ≤ maxLen) (hbytes:(n + m) * i.bytes ≤ 140737488355328) (hbase:base ≤ w.heap.size) :
    ∃ v' w',(Builtin.append_ #[t,tn] ty #[v,.int kq m]).run P w = .ok v' w' ∧ w'.ownsRow base e i.size v' (n + m) (xs ++ (List.replicate m z.cells.toList).flatten) ∧ w.grownBy w' v.ownBlock ∧
      (v'.ownBlock = v.ownBlock ∨ v'.ownBlock = some w.heap.size) ∧ (∀ q A' k',v = .slice A' k' q → n + m ≤ q → ∃ B k'',v' = .slice B k'' q):=by
  have hsmall:n + m ≤ 9223372036854775807:=by simp only [maxLen] at h63;omega
  have hnews:(Builtin.zeroCells z.cells m).toList = (List.replicate m z.cells.toList).flatten:=by
    have h0:Builtin.zeroCells z.cells m = (List.replicate m z.cells.toList).flatten.toArray:=by
      have:=c_0 z.cells.toList (by simp [hzs];omega) m
      simpa [Builtin.zeroCells] using this
    rw [h0]
  have hl:(List.replicate m z.cells.toList).flatten.length = m * i.size:=by simp [hzs]
  have hlen:(xs ++ (List.replicate m z.cells.toList).flatten).length = (n + m) * i.size:=by rw [List.length_append,hown.1,hl,Nat.add_mul]
  have hone':∀ u ∈ (List.replicate m z.cells.toList).flatten,u.oneCell' = true:=by
    intro u hu
    obtain ⟨c,hc,hu⟩:=List.mem_flatten.1 hu
    rw [(List.mem_replicate.1 hc).2] at hu
    exact hone u hu
  have grown:∀ (old:Nat),old < n + m → ∀ (row:Option Nat),
      (w.drew.alloc (.cells (xs.toArray ++ Builtin.zeroCells z.cells m ++ Builtin.zeroCells z.cells (grownCap w (n + m) old e - (n + m))) e)).ownsRow base e i.size
        (.slice (some ⟨w.heap.size,0,none⟩) (n + m) (grownCap w (n + m) old e)) (n + m) (xs ++ (List.replicate m z.cells.toList).flatten) ∧
      w.grownBy (w.drew.alloc (.cells (xs.toArray ++ Builtin.zeroCells z.cells m ++ Builtin.zeroCells z.cells (grownCap w (n + m) old e - (n + m))) e)) row:=by
    intro old ho row
    have hge:=grownCap_ge w (n + m) old e
    have hcm:grownCap w (n + m) old e ≤ maxLen:=grownCap_le_maxLen w (n + m) old e h63
    refine ⟨⟨hlen,.inr ⟨w.heap.size,_,_,rfl,hbase,heap_alloc_new w.drew _,hge,hcm,?_,?_⟩⟩,⟨rfl,rfl,rfl,by simp,fun k hk _=>by first | exact heap_alloc_old w.drew _ hk | exact heap_alloc_old w.drew _ k hk⟩⟩
    · simp only [Array.size_append,List.size_toArray,size_zeroCells,hzs,hown.1,← Nat.add_mul]
      congr 1
      omega
    · simp only [Array.toList_append,List.append_assoc,hnews]
      rw [← List.append_assoc,← hlen]
      exact List.take_left
  have hw:IntKind.i64.wrap (m:Int) = m:=by rw [IntKind.wrap_i64];omega
  have hneg:¬ ((m:Int) < 0):=by omega
  have h48:m * i.bytes ≤ 281474976710656:=by
    have:m * i.bytes ≤ (n + m) * i.bytes:=Nat.mul_le_mul_right _ (by omega)
    omega
  have h48i:¬ (281474976710656 < (m:Int) * (i.bytes:Int)):=by
    rw [← Int.natCast_mul]
    omega
  rcases hown.2 with ⟨rfl,rfl⟩ | ⟨g,cap,cur,rfl,hbg,hg,hnc,hcm,hcs,htake⟩
  · have hx:xs = []:=List.eq_nil_of_length_eq_zero (by simpa using hown.1)
    subst hx
    by_cases hm:m = 0
    · subst hm
      refine ⟨.slice none 0 0,w,?_,by simpa using World.ownsRow_nil w base e i.size,⟨rfl,rfl,rfl,Nat.le_refl _,fun _ _ _=>rfl⟩,.inl rfl,fun q A' k' hv _=>⟨A',k',hv⟩⟩
      have hw0:IntKind.i64.wrap 0 = 0:=rfl
      simp [Builtin.append_,run_underlying ht,run_underlying htn,sizeOf,typeInfo,hi,asInt,asIntOf,hw0]
    · have hr:=Lib.run_append_nil_zeros (P:=P) w t tn ty e i z kq kn ht htn hi hz m (by omega) hsz (by omega) h48
      have hgr:=grown 0 (by omega) (Value.ownBlock (.slice none 0 0))
      simp only [Nat.zero_add,List.nil_append] at hgr ⊢
      refine ⟨_,_,hr,by simpa using hgr.1,by simpa using hgr.2,.inr rfl,fun q A' k' hv hq=>?_⟩
      injection hv with e1 e2 e3
      omega
  · by_cases hroom:n + m ≤ cap
    · have hfit:n * i.size + m * i.size ≤ cur.size:=by rw [hcs,← Nat.add_mul];exact Nat.mul_le_mul_right _ hroom
      have hst:=run_storeCells_at P g (n * i.size) e (List.replicate m z.cells.toList).flatten 0 cur w hg (by rw [hl];simpa using hfit) hone'
      simp only [Nat.add_zero] at hst
      have hr:(Builtin.append_ #[t,tn] ty #[.slice (some ⟨g,0,none⟩) n cap,.int kq m]).run P w =
          .ok (.slice (some ⟨g,0,none⟩) (n + m) cap) (w.setRow g (cur.toList.take (n * i.size) ++ (List.replicate m z.cells.toList).flatten ++ cur.toList.drop (n * i.size + (List.replicate m z.cells.toList).flatten.length)).toArray):=by
        by_cases hm0:m = 0
        · subst hm0
          simp only [List.replicate_zero,List.flatten_nil] at hst
          have hw0:IntKind.i64.wrap 0 = 0:=rfl
          simp [Builtin.append_,run_underlying ht,run_underlying htn,sizeOf,typeInfo,hi,asInt,asIntOf,hw0,hnc,Addr.add_lit,hst]
        · have hns:¬ (m * i.size = 0):=Nat.mul_ne_zero hm0 (by omega)
          simp only [← hnews] at hst ⊢
          simp [Builtin.append_,run_underlying ht,run_underlying htn,sizeOf,typeInfo,zeroValue,hi,hz,asInt,asIntOf,hw,hneg,hns,h48i,hroom,Addr.add_lit,hst]
      refine ⟨_,_,hr,⟨hlen,.inr ⟨g,cap,_,rfl,hbg,setRow_heap w g cur _ e _ hg,hroom,hcm,?_,?_⟩⟩,⟨rfl,rfl,rfl,by simp,fun k _ hk=>setRow_other w g k _ (fun e=>hk (by simp [Value.ownBlock,e]))⟩,.inl rfl,fun q A' k' hv _=>?_⟩
      · simp only [List.size_toArray,List.length_append,List.length_take,List.length_drop,Array.length_toList]
        omega
      · rw [htake,← hlen]
        exact List.take_left
      · injection hv with e1 e2 e3
        exact ⟨_,_,by rw [e3]⟩
    · have holds:∀ j u,xs[j]? = some u → w.cell? ((⟨g,0,none⟩:Addr).add j) = some u:=hown.cells (g:=g) rfl
      have hm0:0 < m:=by omega
      have hold:(Builtin.firstCells i.size n (.slice (some ⟨g,0,none⟩) n cap)).run P w.drew = .ok xs.toArray w.drew:=run_firstCells_some (P:=P) w.drew i.size n ⟨g,0,none⟩ n cap xs hown.1 holds
      have hr:=Lib.run_append_grow_zeros (P:=P) w t tn ty e i z kq kn ht htn hi hz (some ⟨g,0,none⟩) n cap xs hold m hm0 hsz (by omega) (by omega) h48 (growslice_fits (by omega) hbytes)
      have hgr:=grown cap (by omega) (Value.ownBlock (.slice (some ⟨g,0,none⟩) n cap))
      refine ⟨_,_,hr,hgr.1,hgr.2,.inr rfl,fun q A' k' hv hq=>?_⟩
      injection hv with e1 e2 e3
      omega
def appZ {α:Type} (xs:List α) (k:Int) (z:α):Option (List α):=if 0 ≤ k ∧ xs.length + k.toNat ≤ 1099511627776 then some (xs ++ List.replicate k.toNat z) else .none
section
variable {ds:List Deferred} {N:Nat} {a:Act} {l:List (Nat × Value)} {w w0:World} {P:Program} {ops:Array Oper} {Q:Exit → Act → World → Prop} {rest:List Oper} {o:Oper} {Kont:Act → World → Prop} {d:Nat} {K:Nat → Prop} {n:Nat} {L:List (Option Nat)}
theorem d_d (S:StD ds N a l) (W:Wd w0 w L) {s x:Operand} {T TN E:TypeId} {e:GT} {v:Value} {xs r:List (PT e)} {c:Option Nat} {kn kq:IntKind} {m:Int} {z0:PT e} (i:Nat) (z:Value) (ho:o.op = .call { callee:=.builtin .append,args:=#[s,x],argTypes:=#[T,TN] }) (ht:tie P (.sl e) false T [] 0 = true) (htn:tie P (.int kn) false TN [] 0 = true) (hE:P.underlying T = some (.slice E)) (hby:bytesB P T e = true) (hz:(P.info? E).bind (·.zero) = some z) (Rz:∀ w K,RepCs e w K z.cells.toList z0) (hd:o.dst = some d) (hN:Nat.blt d N = true)
    (hs:ev l s = some v) (hx:ev l x = some (.int kq m)) (O:Ow e E w w0.heap.size (Kx K w0.heap.size L) v xs c) (hi:L[i]? = some v.ownBlock) (hr:appZ xs m z0 = some r)
    (k:∀ a' w' v',Apd w w' v v' → Ow e E w' w0.heap.size (Kx K w0.heap.size (L.set i v'.ownBlock)) v' r (a_Q c r.length) → StD ds N a' ((d,v') :: l) → Kont a' w'):o.wp P a w Kont Q:=by
  obtain ⟨cs,h1,h2,h3⟩:=O
  obtain ⟨E',hE',htE⟩:=b_c ht
  obtain rfl:E = E':=by rw [hE] at hE';injection hE' with h;injection h
  obtain ⟨ie,hie,hse⟩:=a_J htE
  unfold bytesB at hby
  rw [hE] at hby
  simp only [hie,Option.any_some,Bool.and_eq_true,Nat.blt_eq,Nat.ble_eq] at hby
  obtain ⟨hsz,hbytes,_⟩:=hby
  have hz0:ie.zero = some z:=by rw [hie] at hz;exact hz
  have hzl:z.cells.size = e.sz:=by have:=(Rz w K).len;simpa using this
  unfold appZ at hr
  by_cases hc:0 ≤ m ∧ xs.length + m.toNat ≤ 1099511627776
  · rw [if_pos hc] at hr
    obtain rfl:=Option.some.inj hr
    obtain ⟨mn,rfl⟩:∃ mn:Nat,m = mn:=⟨m.toNat,by omega⟩
    have hle:=hc.2
    simp only [Int.toNat_natCast] at hle k ⊢
    obtain ⟨v',w',hrun,a1,a2,a4,a5⟩:=c_c (P:=P) w w0.heap.size T TN o.type E ie z kn kq hE (b_v htn) hie hz0 (by rw [hzl,hse]) (by rw [hse];exact hsz) (fun u hu=>(Rz w K).one u hu) v xs.length cs (by rw [hse];exact h1) mn (by simp only [maxLen];omega) (by
      have:(xs.length + mn) * ie.bytes ≤ 1099511627776 * 128:=Nat.mul_le_mul (by omega) hbytes
      omega) W.below.size
    have hap:Apd w w' v v':=⟨a2,a4,fun q hq=>(a1.lt q hq).2⟩
    have hlen:(xs ++ List.replicate mn z0).length = xs.length + mn:=by simp
    refine a_B S (v:=v') (w':=w') hd hN (by simp [execOp,ho,resolve,invoke,builtin,S.eval hs,S.eval hx,hrun]) fun a'=>k a' w' v' hap ⟨_,by rw [hlen,← hse];exact a1,?_,?_⟩
    · have hrep:=b_g (Rz w (Kx K w0.heap.size L)) mn
      rw [List.length_replicate] at hrep
      exact (c_Z h2 hrep).keep (hap.keeps hi) (hap.kk hi)
    · intro q hq
      unfold a_Q at hq
      cases hcc:c with
      | none=>rw [hcc] at hq;cases hq
      | some q' =>
        rw [hcc] at hq
        simp only at hq
        split at hq
        · rename_i hqq
          obtain rfl:=Option.some.inj hq
          obtain ⟨B,k',hv⟩:=h3 q' hcc
          rw [hlen] at hqq
          exact a5 q' B k' hv hqq
        · cases hq
  · rw [if_neg hc] at hr
    cases hr
def cutI {α:Type} (xs:List α) (q:Int):Option (List α):=if 0 ≤ q ∧ q ≤ xs.length then some (xs.take q.toNat) else .none
theorem c_2 (S:StD ds N a l) {T E:TypeId} {x:Operand} {hi:Option Operand} {e:GT} {v:Value} {xs r:List (PT e)} {c:Option Nat} {q:Int} (ho:o.op = .slice T x .none hi .none) (ht:tie P (.sl e) false T [] 0 = true) (hE:P.underlying T = some (.slice E)) (hd:o.dst = some d) (hN:Nat.blt d N = true)
    (hx:ev l x = some v) (O:Ow e E w n (Kx K n L) v xs c) (hhi:(hi = .none ∧ q = (xs.length:Int)) ∨ ∃ x k,hi = some x ∧ ev l x = some (.int k q)) (hr:cutI xs q = some r)
    (k:∀ a' v',v'.ownBlock = v.ownBlock → Ow e E w n (Kx K n L) v' r c → StD ds N a' ((d,v') :: l) → Kont a' w):o.wp P a w Kont Q:=by
  obtain ⟨cs,h1,h2,h3⟩:=O
  obtain ⟨E',hE',htE⟩:=b_c ht
  obtain rfl:E = E':=by rw [hE] at hE';injection hE' with h;injection h
  obtain ⟨ie,hie,hse⟩:=a_J htE
  unfold cutI at hr
  by_cases hc:0 ≤ q ∧ q ≤ xs.length
  · rw [if_pos hc] at hr
    obtain rfl:=Option.some.inj hr
    obtain ⟨c0,c1⟩:=hc
    have hcap:∃ A cap,v = .slice A xs.length cap ∧ xs.length ≤ cap ∧ (A = .none ∨ ∃ g,A = some ⟨g,0,.none⟩):=by
      rcases h1.2 with ⟨e1,e2⟩ | ⟨g,cap,cur,e1,e2,e3,e4,_⟩
      · exact ⟨.none,0,by rw [e1,e2],by omega,.inl rfl⟩
      · exact ⟨_,cap,e1,e4,.inr ⟨g,rfl⟩⟩
    obtain ⟨A,cap,rfl,hle,hA⟩:=hcap
    have hrun:(Instr.sliceAt T (.slice A xs.length cap) .none (hi.map a.eval) .none).run P w = .ok (.slice A q.toNat cap) w:=by
      have q2:q ≤ (cap:Int):=by omega
      rcases hhi with ⟨rfl,rfl⟩ | ⟨y',k',rfl,hy'⟩
      · rcases hA with rfl | ⟨g,rfl⟩ <;> simp [Instr.sliceAt,Instr.slice,Instr.sliceBounds,run_underlying hE,sizeOf,typeInfo,hie,hse,Addr.add_lit]
      · rcases hA with rfl | ⟨g,rfl⟩ <;> simp [Instr.sliceAt,Instr.slice,Instr.sliceBounds,Instr.sliceBound,asIntOf,run_underlying hE,sizeOf,typeInfo,hie,hse,S.eval hy',c0,q2,Addr.add_lit]
    have hcsl:=h2.len
    simp only [GT.sz] at hcsl
    refine a_B S (v:=.slice A q.toNat cap) hd hN (by simp [execOp,ho,S.eval hx,hrun]) fun a'=>k a' _ (by cases A <;> rfl) ⟨cs.take (q.toNat * e.sz),⟨?_,?_⟩,?_,fun p hp=>?_⟩
    · rw [List.length_take,List.length_take,hcsl]
      have:q.toNat * e.sz ≤ xs.length * e.sz:=Nat.mul_le_mul_right _ (by omega)
      rw [Nat.min_eq_left this,Nat.min_eq_left (by omega)]
    · have hl:(xs.take q.toNat).length = q.toNat:=by rw [List.length_take];omega
      rcases h1.2 with ⟨e1,e2⟩ | ⟨g,cap',cur,e1,e2,e3,e4,e5,e6,e7⟩
      · injection e1 with f1 f2 f3
        subst f1;subst f3
        have:q.toNat = 0:=by omega
        exact .inl ⟨by rw [this],by rw [hl,this]⟩
      · injection e1 with f1 f2 f3
        subst f1;subst f3
        refine .inr ⟨g,_,cur,by rw [hl],e2,e3,by rw [hl];omega,e5,e6,?_⟩
        rw [hl,← e7,List.take_take,Nat.min_eq_left (Nat.mul_le_mul_right _ (by omega))]
    · obtain ⟨hx,css,hcs,hcl,hrr⟩:=h2
      have hl:(xs.take q.toNat).length = q.toNat:=by rw [List.length_take];omega
      have hz:∀ c ∈ css,c.length = e.sz:=by
        intro c hcm
        obtain ⟨j,hj⟩:=List.getElem?_of_mem hcm
        have hjl:j < xs.length:=by have:=(List.getElem?_eq_some_iff.1 hj).1;omega
        exact (hrr j c _ hj (List.getElem?_eq_getElem hjl)).len
      have key:∀ (l:List (List Value)) (m:Nat),(∀ c ∈ l,c.length = e.sz) → l.flatten.take (m * e.sz) = (l.take m).flatten:=by
        intro l
        induction l with
        | nil=>intro m _;simp
        | cons c l ih =>
          intro m hc
          cases m with
          | zero=>simp
          | succ m =>
            have h0:=hc c (by simp)
            rw [List.flatten_cons,List.take_succ_cons,List.flatten_cons,List.take_append,h0,← ih m fun d hd=>hc d (by simp [hd])]
            rw [List.take_of_length_le (by rw [h0,Nat.add_mul];omega)]
            congr 2
            rw [Nat.add_mul]
            omega
      refine ⟨rfl,css.take q.toNat,by rw [hcs];exact key css _ hz,by rw [List.length_take,hl];omega,fun j c y hc hy=>?_⟩
      rw [List.getElem?_take] at hc hy
      split at hc
      · rename_i hlt
        rw [if_pos hlt] at hy
        exact hrr j c y hc hy
      · cases hc
    · obtain ⟨A',m',e1⟩:=h3 p hp
      injection e1 with f1 f2 f3
      exact ⟨_,_,by rw [f3]⟩
  · rw [if_neg hc] at hr
    cases hr
end
end Go.Proofs.Ytmcpcdmonglkjaa
namespace Go.Proofs.Ytmcpcdmonglkjaa
open Go.RowKit
def Br (g:GT) (w:World) (K:Nat → Prop) (p:Addr) (x:PT g):Prop:=RepAt g w K p x ∧ p.block < w.heap.size
section
variable {w0 w w':World} {L:List (Option Nat)} {K:Nat → Prop} {n b:Nat} {g t:GT} {p:Addr}
theorem Br.now {x:PT g} (h:Br g w0 K p x) (W:Wd w0 w L):RepAt g w (Kx K w0.heap.size L) p x :=
  h.1.keep (Keeps.below W.below) (fun b hb hK=>⟨.inl hK,fun hm=>by have:=(W.own b hm).1;omega⟩) fun i _=>(Keeps.below (K:=fun _=>True) W.below).2 ⟨p.block,p.off + i,.none⟩ h.2 trivial
theorem Br.again {x:PT g} (h:Br g w0 K p x) (W:Wd w0 w L):Br g w (Kx K w0.heap.size L) p x:=⟨h.now W,by have:=W.below.size;have:=h.2;omega⟩
theorem Bx.br {T:TypeId} {x:PT g} (h:Bx g T w K b x):Br g w K ⟨b,0,.none⟩ x:=⟨h.at_,h.lt⟩
structure Mk (n:Nat) (L:List (Option Nat)) (w w':World):Prop where
  os:w'.os = w.os
  tape:w'.tape = w.tape
  output:w'.output = w.output
  size:w.heap.size ≤ w'.heap.size
  old:∀ k,k < w.heap.size → (k < n ∨ some k ∈ L) → w'.heap[k]? = w.heap[k]?
  cells:∀ p:Addr,p.block < w.heap.size → w'.cell? p = w.cell? p
theorem Mk.rel (n:Nat) (L:List (Option Nat)) (K:Nat → Prop):Rel K (Mk n L) :=
  ⟨fun w=>⟨rfl,rfl,rfl,Nat.le_refl _,fun _ _ _=>rfl,fun _ _=>rfl⟩,
   fun a b c h k=>⟨k.os.trans h.os,k.tape.trans h.tape,k.output.trans h.output,Nat.le_trans h.size k.size,fun i hi hm=>(k.old i (Nat.lt_of_lt_of_le hi h.size) hm).trans (h.old i hi hm),fun p hp=>(k.cells p (Nat.lt_of_lt_of_le hp h.size)).trans (h.cells p hp)⟩,
   fun w=>⟨rfl,rfl,rfl,Nat.le_refl _,fun _ _ _=>rfl,fun _ _=>rfl⟩,
   fun a b h=>⟨h.os,h.tape,h.output,h.size,h.size,fun p hp _=>h.cells p hp⟩,
   fun a b h=>⟨h.os,h.tape,h.output,h.size,fun k hk _=>h.block k hk,fun p hp=>h.cell hp⟩⟩
theorem RepV.mk_ {u:Value} {x:PT t} (h:RepV t w K u x) (hm:Mk n L w w'):RepV t w' K u x:=h.keep ⟨hm.size,fun p hp _=>hm.cells p hp⟩ fun _ _ h=>h
theorem Bx.mk_ {T:TypeId} {x:PT t} (h:Bx t T w K b x) (hm:Mk n L w w') (hb:some b ∈ L):Bx t T w' K b x:=by
  have hl:=h.lt
  obtain ⟨cs,h1,h2⟩:=h
  exact ⟨cs,(hm.old b hl (.inr hb)).trans h1,h2.keep ⟨hm.size,fun p hp _=>hm.cells p hp⟩ fun _ _ h=>h⟩
theorem Ow.mk_ {e:GT} {E:TypeId} {v:Value} {xs:List (PT e)} {c:Option Nat} {m:Nat} (h:Ow e E w m K v xs c) (hm:Mk n L w w') (i:Nat) (hi:L[i]? = some v.ownBlock):Ow e E w' m K v xs c:=by
  obtain ⟨cs,h1,h2,h3⟩:=h
  refine ⟨cs,⟨h1.1,?_⟩,h2.keep ⟨hm.size,fun p hp _=>hm.cells p hp⟩ fun _ _ h=>h,h3⟩
  rcases h1.2 with h4 | ⟨g,cap,cur,e1,e2,e3,e4⟩
  · exact .inl h4
  · refine .inr ⟨g,cap,cur,e1,e2,(hm.old g (Array.getElem?_eq_some_iff.1 e3).1 (.inr ?_)).trans e3,e4⟩
    rw [e1] at hi
    exact List.mem_of_getElem? hi
theorem Wd.mk_ (h:Wd w0 w L) (hm:Mk w0.heap.size L w w'):Wd w0 w' L :=
  ⟨h.below.trans ⟨hm.os,hm.tape,hm.output,hm.size,fun k hk=>hm.old k (by have:=h.below.size;omega) (.inl hk)⟩,fun c hc=>⟨(h.own c hc).1,by have:=(h.own c hc).2;have:=hm.size;omega⟩,h.dis⟩
end
section
variable {ds:List Deferred} {N:Nat} {a:Act} {l:List (Nat × Value)} {w w0:World} {P:Program} {ops:Array Oper} {Q:Exit → Act → World → Prop} {rest:List Oper} {o:Oper} {Kont:Act → World → Prop} {d:Nat} {K:Nat → Prop} {n:Nat} {L:List (Option Nat)}
theorem b_P (S:StD ds N a l) (W:Wd w0 w L) {T E:TypeId} {e:GT} (ho:o.op = .buildSlice T 0 #[]) (ht:tie P (.sl e) false T [] 0 = true) (hE:P.underlying T = some (.slice E)) (hd:o.dst = some d) (hN:Nat.blt d N = true)
    (k:∀ a' w' b,NewB w w' b → Ow e E w' w0.heap.size (Kx K w0.heap.size (some b :: L)) (.slice (some ⟨b,0,.none⟩) 0 0) [] (some 0) → StD ds N a' ((d,.slice (some ⟨b,0,.none⟩) 0 0) :: l) → Kont a' w'):o.wp P a w Kont Q:=by
  obtain ⟨E',hE',htE⟩:=b_c ht
  obtain rfl:E = E':=by rw [hE] at hE';injection hE' with h;injection h
  obtain ⟨ie,hie,hse⟩:=a_J htE
  have hb:=a_P w (.cells #[] E)
  have hrun:(Instr.buildSlice T 0 #[]).run P w = .ok (.slice (some ⟨w.heap.size,0,.none⟩) 0 0) (w.alloc (.cells #[] E)):=by
    simp [Instr.buildSlice,run_underlying hE,sizeOf,typeInfo,hie,Instr.fill,newRow]
    rw [show Array.range 0 = #[] from rfl,Array.map_empty]
  refine a_B S (v:=.slice (some ⟨w.heap.size,0,.none⟩) 0 0) (w':=w.alloc (.cells #[] E)) hd hN (by simp [execOp,ho,hrun]) fun a'=>k a' _ w.heap.size hb ⟨[],⟨by simp,.inr ⟨w.heap.size,0,#[],rfl,W.below.size,heap_alloc_new w _,by simp,by simp,by simp,by simp⟩⟩,⟨rfl,[],rfl,rfl,fun j c y h=>by simp at h⟩,fun q hq=>by obtain rfl:=Option.some.inj hq;exact ⟨_,_,rfl⟩⟩
end
section
variable {ds:List Deferred} {N:Nat} {a:Act} {l:List (Nat × Value)} {w w0:World} {P:Program} {ops:Array Oper} {Q:Exit → Act → World → Prop} {rest:List Oper} {o:Oper} {Kont:Act → World → Prop} {d:Nat} {K:Nat → Prop} {n:Nat} {L:List (Option Nat)}
theorem op_eqnil (S:StD ds N a l) {T T':TypeId} {x:Operand} {e:GT} {v:Value} {xs:Sl (PT e)} (ho:o.op = .binOp .eql T x (.const (.slice .none 0 0)) T') (ht:tie P (.sl e) false T [] 0 = true) (hd:o.dst = some d) (hN:Nat.blt d N = true)
    (hx:ev l x = some v) (R:RepV (.sl e) w K v xs) (k:∀ a' b,(b = true → xs.xs = []) → StD ds N a' ((d,.bool b) :: l) → Kont a' w):o.wp P a w Kont Q:=by
  obtain ⟨E,hE,htE⟩:=b_c ht
  obtain ⟨A,n0,c,rfl,h1,h2,h3,h4,h5⟩:=R.sl
  have hc:a.eval (.const (.slice .none 0 0)) = .slice .none 0 0:=rfl
  have he0:∀ d,(Op.equalIn (d + 1) T (.slice A n0 c) (.slice .none 0 0)).run P w = .ok A.isNone w:=by
    intro d
    cases A with
    | none=>simp [Op.equalIn,run_underlying hE]
    | some A=>simp [Op.equalIn,run_underlying hE]
  have he:(Op.equalIn 10000 T (.slice A n0 c) (.slice .none 0 0)).run P w = .ok A.isNone w:=he0 9999
  refine a_B S (v:=.bool A.isNone) hd hN ?_ fun a'=>k a' A.isNone fun hb=>?_
  · simp only [execOp,ho,S.eval hx,hc]
    simp [eqGuard,binOp,Op.equal,Op.maxDepth,he]
  · rcases h5 with h5 | ⟨b,off,rfl,_⟩
    · exact h5
    · cases hb
end
theorem RepV.unraw {w:World} {K:Nat → Prop} {f:GT} (k:Nat) {v u:Value} (x:PT f) (hs:d_5 (comp f k) = true) (h:RepV (.st (rawAt f k)) w K u (d_S f k v x)) (hv:RepV (comp f k) w K v (proj f k x)):RepV (.st f) w K u x:=by
  obtain ⟨cs,h1,h2⟩:=h
  exact ⟨cs,RepCs.unraw (t:=f) k x hs h1 hv,h2⟩
end Go.Proofs.Ytmcpcdmonglkjaa
namespace Go.Proofs.Ytmcpcdmonglkjaa
open Go.RowKit
abbrev GW:=(Nat → Option (Option Nat)) × World
def d_e (ops:Array Oper) (F:Nat → Value → GW → Prop) (A:Act) (g:GW):List Edge → Prop
  | []=>True
  | e :: es=>(match (ops[e.on]?).bind (·.dst) with | some d=>∃ v,A.tmps[d]? = some v ∧ F e.on v g | none=>True) ∧ d_e ops F A g es
def waitsB (ops:Array Oper):Nat → Nat → Nat → Bool
  | 0,_,_=>false
  | n + 1,s,i=>match ops[s]? with | some o=>o.after.toList.any (fun e=>Region.binds .any e && (Nat.beq e.on i || waitsB ops n e.on i)) | none=>false
theorem waitsB.listed {ops:Array Oper} {listed:Array Bool} (hc:c_m ops listed) {i:Nat}:∀ (n s:Nat),waitsB ops n s i = true → listed.getD s false = true → listed.getD i false = true
  | 0,_,h,_=>by cases h
  | n + 1,s,h,hl=>by
    unfold waitsB at h
    cases hso:ops[s]? with
    | none=>rw [hso] at h;cases h
    | some p =>
      rw [hso] at h
      obtain ⟨e,he,hb⟩:=List.any_eq_true.1 h
      simp only [Bool.and_eq_true,Bool.or_eq_true] at hb
      have h1:=hc s p hl hso e (Array.mem_toList_iff.1 he) hb.1
      rcases hb.2 with h2 | h2
      · rw [Nat.eq_of_beq_eq_true h2] at h1;exact h1
      · exact waitsB.listed hc n e.on h2 h1
def d_f (D:List Nat) (R:GW → GW → Prop) (P:Program) (ops:Array Oper) (F:Nat → Value → GW → Prop) (a0:Act) (g0:GW) (Q:Exit → Act → World → Prop) (i:Nat) (o:Oper):Prop :=
  ∀ (A:Act) (g:GW),R g0 g → g.1 i = none → (∀ m s,waitsB ops m s i = true → g.1 s = none) → A.defers = a0.defers → A.tmps.size = a0.tmps.size → (∀ t,t ∉ D → A.tmps[t]? = a0.tmps[t]?) → d_e ops F A g (o.after.toList.filter (Region.binds .any)) →
    if Region.wanted o (yielded ops A.tmps) then o.wp P A g.2 (fun A' W'=>∃ v M',A' = A.put o.dst v ∧ (o.dst = none → v = undef) ∧ F i v (M',W') ∧ R g (M',W') ∧ ∀ j,j ≠ i → M' j = g.1 j) Q ∨ (o.asks P A g.2 ∧ LetsOut Q)
    else ∃ M',F i undef (M',g.2) ∧ R g (M',g.2) ∧ ∀ j,j ≠ i → M' j = g.1 j
def c_N (F:Nat → Value → GW → Prop) (g:GW) (Q:Act → Prop):Nat → List Oper → Act → Prop
  | _,[],a=>Q a
  | i,o :: os,a=>match o.dst with
    | some _=>∀ v,F i v g → c_N F g Q (i + 1) os (a.put o.dst v)
    | none=>F i undef g → c_N F g Q (i + 1) os a
def FillDepsG (F:List (Value → GW → Prop)) (g:GW):List (Nat × Nat) → Act → (Act → Prop) → Prop
  | [],A,R=>R A
  | (i,d) :: ds,A,R=>∀ v,(F.getD i (fun _ _=>True)) v g → FillDepsG F g ds (A.put (some d) v) R
theorem FillDepsG.get {F:List (Value → GW → Prop)} {g:GW} {B:Act} {R:Act → Prop}:∀ (ds:List (Nat × Nat)) (A:Act),FillDepsG F g ds A R → (∀ p ∈ ds,(F.getD p.1 (fun _ _=>True)) (B.tmps.getD p.2 undef) g) → R (a_0 B ds A)
  | [],A,h,_=>h
  | (i,d) :: ds,A,h,hv=>FillDepsG.get ds _ (h _ (hv (i,d) (by simp))) fun p hp=>hv p (List.mem_cons_of_mem _ hp)
def RPostG (R:GW → GW → Prop) (i:Nat) (d:Option Nat) (f:Value → GW → Prop) (ds:List Deferred) (g:GW) (Q:Exit → Act → World → Prop):Exit → Act → World → Prop
  | .normal,a,w'=>∃ M',a.defers = ds ∧ f (b_d d a) (M',w') ∧ R g (M',w') ∧ ∀ j,j ≠ i → M' j = g.1 j
  | .outgrown,a,w'=>Q .outgrown a w'
  | _,_,_=>False
def nthG:List (Value → GW → Prop) → Nat → Value → GW → Prop
  | [],_=>fun _ _=>True
  | f :: _,0=>f
  | _ :: fs,i + 1=>nthG fs i
theorem c_d:∀ (Fs:List (Value → GW → Prop)) (i:Nat),Fs.getD i (fun _ _=>True) = nthG Fs i
  | [],_=>rfl
  | f :: _,0=>rfl
  | _ :: fs,i + 1=>by rw [List.getD_cons_succ];exact c_d fs i
def FillEG (g:GW):List ((Value → GW → Prop) × Nat) → Act → (Act → Prop) → Prop
  | [],A,R=>R A
  | (f,d) :: ds,A,R=>∀ v,f v g → FillEG g ds (A.put (some d) v) R
theorem FillEG.deps {Fs:List (Value → GW → Prop)} {g:GW} {R:Act → Prop}:∀ (ds:List (Nat × Nat)) (A:Act),FillEG g (ds.map fun p=>(nthG Fs p.1,p.2)) A R → FillDepsG Fs g ds A R
  | [],_,h=>h
  | (i,d) :: ds,A,h=>fun v hv=>FillEG.deps ds _ (h v (by rw [← c_d];exact hv))
def RunAllG (R:GW → GW → Prop) (P:Program) (ops:Array Oper) (a0:Act) (g0:GW) (Q:Exit → Act → World → Prop) (Fs:List (Value → GW → Prop)):Nat → List Oper → List (List (Nat × Nat)) → Prop
  | _,[],_=>True
  | i,o :: os,ds :: D=>(∀ g,R g0 g → g.1 i = none → (∀ m s,waitsB ops m s i = true → g.1 s = none) → FillEG g (ds.map fun p=>(nthG Fs p.1,p.2)) a0 fun A=>wpList P ops (RPostG R i o.dst (nthG Fs i) a0.defers g Q) [o] A g.2) ∧ RunAllG R P ops a0 g0 Q Fs (i + 1) os D
  | _,_ :: _,[]=>False
theorem RunAllG.cons {R:GW → GW → Prop} {P:Program} {ops:Array Oper} {a0:Act} {g0:GW} {Q:Exit → Act → World → Prop} {Fs:List (Value → GW → Prop)} {i:Nat} {o:Oper} {os:List Oper} {ds:List (Nat × Nat)} {D:List (List (Nat × Nat))} (f:Value → GW → Prop) (es:List ((Value → GW → Prop) × Nat))
    (hf:nthG Fs i = f) (he:(ds.map fun p=>(nthG Fs p.1,p.2)) = es) (h:∀ M W,R g0 (M,W) → M i = none → (∀ m s,waitsB ops m s i = true → M s = none) → FillEG (M,W) es a0 fun A=>wpList P ops (RPostG R i o.dst f a0.defers (M,W) Q) [o] A W) (r:RunAllG R P ops a0 g0 Q Fs (i + 1) os D):RunAllG R P ops a0 g0 Q Fs i (o :: os) (ds :: D):=by
  subst hf
  subst he
  exact ⟨fun g hg hu hv=>h g.1 g.2 hg hu hv,r⟩
def EndEG (g:GW) (Q:Act → Prop):List (Value → GW → Prop) → List Oper → Act → Prop
  | f :: fs,o :: os,a=>match o.dst with
    | some d=>∀ v,f v g → EndEG g Q fs os (a.put (some d) v)
    | .none=>f undef g → EndEG g Q fs os a
  | _,_,a=>Q a
theorem EndEG.some_ {g:GW} {Q:Act → Prop} {f:Value → GW → Prop} {fs:List (Value → GW → Prop)} {o:Oper} {os:List Oper} {a:Act} {d:Nat} (hd:o.dst = some d) (h:∀ v,f v g → EndEG g Q fs os (a.put (some d) v)):EndEG g Q (f :: fs) (o :: os) a:=by
  unfold EndEG
  rw [hd]
  exact h
theorem EndEG.ok {g:GW} {Q:Act → Prop} (fs:List (Value → GW → Prop)):∀ (F:Nat → Value → GW → Prop) (k:Nat) (os:List Oper) (a:Act),fs.length = os.length → (∀ j,F (k + j) = nthG fs j) → EndEG g Q fs os a → c_N F g Q k os a:=by
  induction fs with
  | nil =>
    intro F k os a hl _ h
    obtain rfl:os = []:=List.eq_nil_of_length_eq_zero (by simpa using hl.symm)
    exact h
  | cons f fs ih =>
    intro F k os a hl hF h
    cases os with
    | nil=>simp at hl
    | cons o os =>
      have hl':fs.length = os.length:=by simpa using hl
      have hF':∀ j,F (k + 1 + j) = nthG fs j:=fun j=>by have:=hF (j + 1);rw [← Nat.add_assoc,Nat.add_right_comm] at this;exact this
      have h0:F k = f:=hF 0
      unfold c_N
      unfold EndEG at h
      cases hd:o.dst with
      | none=>rw [hd] at h;intro hf;rw [h0] at hf;exact ih F (k + 1) os a hl' hF' (h hf)
      | some d =>
        rw [hd] at h
        intro v hv
        rw [h0] at hv
        exact ih F (k + 1) os _ hl' hF' (h v hv)
theorem endEG_nil {ds:List Deferred} {N:Nat} {l:List (Nat × Value)} {g:GW} {Q:Act → Prop} {a:Act} (S:StD ds N a l) (h:∀ a',StD ds N a' l → Q a'):EndEG g Q [] [] a:=h a S
theorem c_e {ds:List Deferred} {N:Nat} {l:List (Nat × Value)} {g:GW} {Q:Act → Prop} {a:Act} (S:StD ds N a l) (h:∀ a',StD ds N a' l → Q a'):FillEG g [] a Q:=h a S
structure RInvG (R:GW → GW → Prop) (ops:Array Oper) (n:Nat) (F:Nat → Value → GW → Prop) (a0:Act) (g0:GW) (listed:Array Bool) (a:Act) (g:GW):Prop where
  size:listed.size = ops.size
  tsize:a.tmps.size = a0.tmps.size
  defers:a.defers = a0.defers
  below:R g0 g
  keep:∀ t,(∀ (i:Nat) (o:Oper),i < n → ops[i]? = some o → o.dst ≠ some t) → a.tmps[t]? = a0.tmps[t]?
  done:∀ (i:Nat) (o:Oper) (d:Nat),listed.getD i false = true → ops[i]? = some o → o.dst = some d → ∃ v,a.tmps[d]? = some v ∧ F i v g
  doneN:∀ (i:Nat) (o:Oper),listed.getD i false = true → ops[i]? = some o → o.dst = none → F i undef g
  late:∀ i,n ≤ i → listed.getD i false = false
  closed:c_m ops listed
  free:∀ i,listed.getD i false = false → g.1 i = none
section
variable {R:GW → GW → Prop} {P:Program} {ops:Array Oper} {F:Nat → Value → GW → Prop} {a0:Act} {g0:GW} {Q:Exit → Act → World → Prop} {n:Nat}
theorem d_6 {D:List Nat} {F:List (Value → GW → Prop)} {F':Nat → Value → GW → Prop} {o:Oper} {i:Nat} {ds:List (Nat × Nat)} {f:Value → GW → Prop} (hB:a_z ops a0.tmps.size = true) (hsel:Region.noSelect ops = true) (ho:ops[i]? = some o)
    (hd:d_q D ops o ds = true) (hF:∀ p ∈ ds,F' p.1 = F.getD p.1 (fun _ _=>True)) (hf:F' i = f)
    (h:∀ g,R g0 g → g.1 i = none → (∀ m s,waitsB ops m s i = true → g.1 s = none) → FillDepsG F g ds a0 fun A=>wpList P ops (RPostG R i o.dst f a0.defers g Q) [o] A g.2):d_f D R P ops F' a0 g0 Q i o:=by
  intro A g hW hun hwt_ hdf hsz hkeep hdeps
  simp only [d_q,Bool.and_eq_true,List.all_eq_true,beq_iff_eq] at hd
  obtain ⟨hd1,hd2⟩:=hd
  have dep:∀ (l:List Edge),d_e ops F' A g l → ∀ e ∈ l,∀ d,(ops[e.on]?).bind (·.dst) = some d → ∃ v,A.tmps[d]? = some v ∧ F' e.on v g:=by
    intro l
    induction l with
    | nil=>intro _ e he;cases he
    | cons x l ih =>
      intro hl e he d hed
      rcases List.mem_cons.1 he with rfl | h'
      · have:=hl.1
        rw [hed] at this
        exact this
      · exact ih hl.2 e h' d hed
  have hval:∀ p ∈ ds,(F.getD p.1 (fun _ _=>True)) (A.tmps.getD p.2 undef) g:=by
    intro p hp
    obtain ⟨h1,h2⟩:=hd1 p hp
    obtain ⟨e,he,h3⟩:=List.any_eq_true.1 h2
    simp only [Bool.and_eq_true,beq_iff_eq] at h3
    obtain ⟨v,hv,hFv⟩:=dep _ hdeps e (List.mem_filter.2 ⟨he,h3.1⟩) p.2 (by rw [h3.2];exact h1)
    rw [← hF p hp,← h3.2]
    simpa [hv] using hFv
  have hstep:=FillDepsG.get (B:=A) ds a0 (h g hW hun hwt_) hval
  generalize hA':a_0 A ds a0 = A' at hstep
  obtain ⟨g1,g2,g3,g4,g5⟩:=b_r A ds a0 hsz.symm
  rw [hA'] at g1 g2 g3 g4 g5
  have hlook:∀ t ∈ o.looksAt ops,A'.tmps[t]? = A.tmps[t]?:=by
    intro t ht
    have:=hd2 t ht
    by_cases hm:t ∈ D
    · simp only [List.contains_eq_mem,decide_eq_true hm,Bool.not_true,Bool.false_or,List.any_eq_true,beq_iff_eq] at this
      obtain ⟨p,hp,rfl⟩:=this
      exact g5 p hp
    · exact g4 t (hkeep t hm).symm
  have hw:=b_4 (ops:=ops) hlook
  have hop:∀ cs b,o.op ≠ .select cs b:=fun cs b=>Region.noSelect_spec hsel i o cs b ho
  have he:execOp A'.eval o = execOp A.eval o:=execOp_congr o hop fun x hx=>c_D fun t ht=>hlook t (List.mem_append_left _ (List.mem_filterMap.2 ⟨x,by simpa using hx,by simp [ht]⟩))
  have hdlt:∀ d,o.dst = some d → d < A'.tmps.size:=by
    intro d hod
    simp only [a_z,Bool.and_eq_true,decide_eq_true_eq,List.all_eq_true] at hB
    rw [g2,hsz]
    exact hB.1.2 d (a_U ho hod)
  have hslot:∀ v,b_d o.dst (A'.put o.dst v) = match o.dst with | some _=>v | none=>undef:=by
    intro v
    cases hod:o.dst with
    | none=>rfl
    | some d=>simp [b_d,Act.put,hdlt d hod]
  have hout:LetsOut (RPostG R i o.dst f a0.defers g Q) → LetsOut Q:=fun ⟨a,w,h⟩=>⟨a,w,h⟩
  rw [hf]
  unfold wpList at hstep
  rw [hw] at hstep
  split
  · rename_i hwt
    rw [if_pos hwt] at hstep
    rcases hstep with hstep | ⟨hasks,hl⟩
    · refine .inl ?_
      unfold Oper.wp at hstep ⊢
      rw [he] at hstep
      have conv:∀ v w',RPostG R i o.dst f a0.defers g Q .normal (A'.put o.dst v) w' → ∃ u M',A.put o.dst v = A.put o.dst u ∧ (o.dst = none → u = undef) ∧ f u (M',w') ∧ R g (M',w') ∧ ∀ j,j ≠ i → M' j = g.1 j:=by
        intro v w' hr
        obtain ⟨M',_,h2,h3,h4⟩:=hr
        rw [hslot v] at h2
        cases hod:o.dst with
        | none=>rw [hod] at h2;exact ⟨undef,M',rfl,fun _=>rfl,h2,h3,h4⟩
        | some d=>rw [hod] at h2;exact ⟨v,M',rfl,(fun h=>by cases h),h2,h3,h4⟩
      generalize (execOp A.eval o).run P g.2 = r at *
      cases r with
      | ok n w' =>
        cases n <;> simp only [Oper.upon,wpList] at hstep ⊢
        case value u=>exact conv u w' hstep
        case skip=>exact conv undef w' hstep
        case defer d =>
          exfalso
          obtain ⟨_,h1,_⟩:=hstep
          cases hod:o.dst <;> simp [Act.put,hod,g1] at h1
        case enter fn args =>
          refine Calls.mono hstep fun e w'' h=>?_
          cases e with
          | returned u=>exact conv u w'' h
          | panicked c=>exact h.elim
          | outgrown=>exact hout h
        case row row args=>exact Rows.mono hstep fun u w'' h=>conv u w'' h
      | halt x w' =>
        cases x <;> simp only [Oper.upon] at hstep ⊢
        case panic u=>exact hstep.elim
    · refine .inr ⟨?_,hout hl⟩
      unfold Oper.asks at hasks ⊢
      rw [he] at hasks
      exact hasks
  · rename_i hwt
    rw [if_neg hwt] at hstep
    obtain ⟨M',_,h2,h3,h4⟩:=(show RPostG R i o.dst f a0.defers g Q .normal (A'.put o.dst undef) g.2 from hstep)
    rw [hslot undef] at h2
    refine ⟨M',?_,h3,h4⟩
    cases hod:o.dst <;> simpa [hod] using h2
theorem RInvG.step (hR0:∀ w,R w w) (hRt:∀ a b c,R a b → R b c → R a c) (hB:a_z ops a0.tmps.size = true) (hst:∀ i v w w',R w w' → F i v w → F i v w')
    {listed:Array Bool} {a:Act} {g:GW} {i:Nat} (hin:i < n) (hs:∀ o,ops[i]? = some o → d_f (a_X (ops.toList.take n).toArray) R P ops F a0 g0 Q i o) (h:RInvG R ops n F a0 g0 listed a g) (hi:i ∈ Region.ready .any ops listed) :
    wpOp P ops Q i (fun a' w'=>∃ M',RInvG R ops n F a0 g0 (listed.setIfInBounds i true) a' (M',w')) a g.2:=by
  obtain ⟨hun,o,ho,hall⟩:=mem_ready.1 hi
  simp only [a_z,Bool.and_eq_true,decide_eq_true_eq,List.all_eq_true] at hB
  obtain ⟨⟨hnd,hlt⟩,_⟩:=hB
  have hwaits:∀ m s,waitsB ops m s i = true → g.1 s = none:=by
    intro m s hs_
    refine h.free s ?_
    cases hl:listed.getD s false with
    | false=>rfl
    | true =>
      have:=waitsB.listed h.closed m s hs_ hl
      rw [(unlisted_lt hi).2] at this
      cases this
  have hstep:=hs o ho a g h.below (h.free i (unlisted_lt hi).2) hwaits h.defers h.tsize (fun t ht=>h.keep t fun i o hi ho hd=>ht (d_x hi ho hd)) (by
    have:∀ l:List Edge,(∀ e ∈ l,e ∈ o.after ∧ Region.binds .any e = true) → d_e ops F a g l:=by
      intro l
      induction l with
      | nil=>intro _;trivial
      | cons e es ih =>
        intro hl
        refine ⟨?_,ih fun x hx=>hl x (List.mem_cons_of_mem _ hx)⟩
        obtain ⟨he,hb⟩:=hl e (by simp)
        have hd:=hall e he hb
        cases hoe:ops[e.on]? with
        | none=>trivial
        | some oe =>
          cases hde:oe.dst with
          | none=>simp [hde]
          | some d=>simpa [hde] using h.done e.on oe d hd hoe hde
    exact this _ fun e he=>by
      rw [List.mem_filter] at he
      exact ⟨Array.mem_toList_iff.1 he.1,he.2⟩)
  have fin:∀ v (g':GW),(o.dst = none → v = undef) → F i v g' → R g g' → (∀ j,j ≠ i → g'.1 j = g.1 j) → RInvG R ops n F a0 g0 (listed.setIfInBounds i true) (a.put o.dst v) g':=by
    intro v g' hnone hv hb hfr
    have tk:∀ t,o.dst ≠ some t → (a.put o.dst v).tmps[t]? = a.tmps[t]?:=by
      intro t hne
      cases hd:o.dst with
      | none=>rfl
      | some d =>
        have:d ≠ t:=fun e=>hne (by rw [hd,e])
        simp [Act.put,Array.getElem?_setIfInBounds_ne this]
    refine ⟨by simpa using h.size,?_,?_,hRt _ _ _ h.below hb,fun t ht=>?_,fun j p d hj hp hd=>?_,fun j p hj hp hd=>?_,fun j hj=>?_,fun j p hj hp e he hb=>?_,fun j hj=>?_⟩
    · cases hd:o.dst <;> simp [Act.put,h.tsize]
    · cases hd:o.dst <;> simp [Act.put,h.defers]
    · rw [tk t (ht i o hin ho),h.keep t ht]
    · by_cases hij:i = j
      · subst hij
        rw [ho] at hp
        obtain rfl:=Option.some.inj hp
        refine ⟨v,?_,hv⟩
        have:d < a.tmps.size:=by
          rw [h.tsize]
          exact hlt d (a_U ho hd)
        simp [Act.put,hd,this]
      · rw [show (listed.setIfInBounds i true).getD j false = listed.getD j false from getD_set_ne false hij] at hj
        obtain ⟨u,hu,hF⟩:=h.done j p d hj hp hd
        refine ⟨u,?_,hst _ _ _ _ hb hF⟩
        rw [tk d (fun e=>hij (b_Q ops.toList hnd i j o p d (by simpa using ho) (by simpa using hp) e hd))]
        exact hu
    · by_cases hij:i = j
      · subst hij
        rw [ho] at hp
        obtain rfl:=Option.some.inj hp
        rw [← hnone hd]
        exact hv
      · rw [show (listed.setIfInBounds i true).getD j false = listed.getD j false from getD_set_ne false hij] at hj
        exact hst _ _ _ _ hb (h.doneN j p hj hp hd)
    · rw [show (listed.setIfInBounds i true).getD j false = listed.getD j false from getD_set_ne false (by omega)]
      exact h.late j hj
    · have keep:∀ m,listed.getD m false = true → (listed.setIfInBounds i true).getD m false = true:=fun m hm=>by
        by_cases him:i = m
        · subst him
          exact b_O (by
            rcases Nat.lt_or_ge i listed.size with h1 | h1
            · exact h1
            · simp [Array.getD_eq_getD_getElem?,Nat.not_lt.2 h1] at hm)
        · rw [show (listed.setIfInBounds i true).getD m false = listed.getD m false from getD_set_ne false him]
          exact hm
      refine keep _ ?_
      by_cases hij:i = j
      · subst hij
        rw [ho] at hp
        obtain rfl:=Option.some.inj hp
        exact hall e he hb
      · rw [show (listed.setIfInBounds i true).getD j false = listed.getD j false from getD_set_ne false hij] at hj
        exact h.closed j p hj hp e he hb
    · by_cases hij:i = j
      · subst hij
        rw [b_O (by have:=(unlisted_lt hi).1;exact this)] at hj
        cases hj
      · rw [show (listed.setIfInBounds i true).getD j false = listed.getD j false from getD_set_ne false hij] at hj
        rw [hfr j (fun e=>hij e.symm)]
        exact h.free j hj
  unfold wpOp
  simp only [ho]
  split
  · rename_i hw
    rw [if_pos hw] at hstep
    exact hstep.imp (Oper.wp_mono (fun a' w' ⟨v,M',e,hn,hv,hb,hfr⟩=>by subst e;exact ⟨M',fin v (M',w') hn hv hb hfr⟩)) id
  · rename_i hw
    rw [if_neg hw] at hstep
    obtain ⟨M',h1,h2,h3⟩:=hstep
    exact ⟨M',fin undef (M',g.2) (fun _=>rfl) h1 h2 h3⟩
theorem RInvG.finish (hB:a_z ops a0.tmps.size = true) {listed:Array Bool} {a:Act} {g:GW} (h:RInvG R ops n F a0 g0 listed a g) (hall:∀ i,i < n → i < ops.size → listed.getD i false = true)
    {K:Act → Prop} (hend:c_N F g K 0 (ops.toList.take n) a0):K a:=by
  have hB':=hB
  simp only [a_z,Bool.and_eq_true,decide_eq_true_eq,List.all_eq_true] at hB'
  obtain ⟨⟨hnd,hlt⟩,_⟩:=hB'
  have key:∀ (l:List Oper) (k:Nat) (b:Act),(∀ j,l[j]? = (ops.toList.take n)[k + j]?) → b.tmps.size = a.tmps.size → b.defers = a.defers →
      (∀ t,(∀ (j:Nat) (o:Oper),l[j]? = some o → o.dst ≠ some t) → b.tmps[t]? = a.tmps[t]?) → c_N F g K k l b → K a:=by
    intro l
    induction l with
    | nil =>
      intro k b _ hs hd ht he
      have:b = a:=by
        obtain ⟨bt,bd⟩:=b
        obtain ⟨at_,ad⟩:=a
        simp only at hd
        subst hd
        have:bt = at_:=Array.ext_getElem? fun t=>ht t (fun j o hj=>by simp at hj)
        rw [this]
      rw [← this]
      exact he
    | cons o l ih =>
      intro k b hl hs hd ht he
      have h00:(ops.toList.take n)[k]? = some o:=by simpa using (hl 0).symm
      have hkn:k < n:=by
        rcases Nat.lt_or_ge k n with h1 | h1
        · exact h1
        · rw [List.getElem?_take_eq_none h1] at h00;cases h00
      have h0:ops[k]? = some o:=by
        rw [List.getElem?_take_of_lt hkn] at h00
        simpa using h00
      have hl':∀ j,l[j]? = (ops.toList.take n)[k + 1 + j]?:=fun j=>by have:=hl (j + 1);rw [Nat.add_assoc,Nat.add_comm 1 j];exact this
      have hlk:listed.getD k false = true:=hall k hkn (by
        rcases Nat.lt_or_ge k ops.size with hk | hk
        · exact hk
        · rw [Array.getElem?_eq_none hk] at h0;cases h0)
      unfold c_N at he
      cases hod:o.dst with
      | none =>
        rw [hod] at he
        have he:=he (h.doneN k o hlk h0 hod)
        exact ih (k + 1) b hl' hs hd (fun t hn=>ht t (fun j p hj=>by
          match j,hj with
          | 0,hj=>simp at hj;subst hj;simp [hod]
          | j + 1,hj=>exact hn j p (by simpa using hj))) he
      | some d =>
        rw [hod] at he
        obtain ⟨v,hv,hF⟩:=h.done k o d hlk h0 hod
        refine ih (k + 1) (b.put (some d) v) hl' (by simp [Act.put,hs]) (by simp [Act.put,hd]) (fun t hn=>?_) (he v hF)
        by_cases hdt:d = t
        · subst hdt
          have hlt':d < b.tmps.size:=by rw [hs,h.tsize];exact hlt d (a_U h0 hod)
          simp [Act.put,hlt',hv]
        · simp only [Act.put]
          rw [Array.getElem?_setIfInBounds_ne hdt]
          refine ht t (fun j p hj=>?_)
          match j,hj with
          | 0,hj=>simp at hj;subst hj;simpa [hod] using hdt
          | j + 1,hj=>exact hn j p (by simpa using hj)
  refine key (ops.toList.take n) 0 a0 (by simp) h.tsize.symm h.defers.symm (fun t hn=>(h.keep t (fun i o hi ho hd=>?_)).symm) hend
  exact hn i o (by rw [List.getElem?_take_of_lt hi];simpa using ho) hd
theorem RunAllG.get {E:List Nat} {Fs:List (Value → GW → Prop)} (hB:a_z ops a0.tmps.size = true) (hsel:Region.noSelect ops = true):∀ (l:List Oper) (k:Nat) (D:List (List (Nat × Nat))),
    (∀ j o,l[j]? = some o → ops[k + j]? = some o) → a_5 E ops l D = true → RunAllG R P ops a0 g0 Q Fs k l D → ∀ j o,l[j]? = some o → d_f E R P ops (fun i=>Fs.getD i (fun _ _=>True)) a0 g0 Q (k + j) o
  | [],_,_,_,_,_,j,o,h=>by simp at h
  | x :: l,k,[],_,_,h,_,_,_=>h.elim
  | x :: l,k,ds :: D,hl,hD,h,j,o,hj=>by
    simp only [a_5,Bool.and_eq_true] at hD
    match j,hj with
    | 0,hj =>
      simp at hj
      subst hj
      exact d_6 (F:=Fs) (f:=nthG Fs k) hB hsel (hl 0 _ (by simp)) hD.1 (fun p _=>rfl) (c_d Fs k) fun g hg hu hv=>FillEG.deps ds a0 (h.1 g hg hu hv)
    | j + 1,hj =>
      have:=RunAllG.get hB hsel l (k + 1) D (fun i p hp=>by have:=hl (i + 1) p (by simpa using hp);simpa [Nat.add_assoc,Nat.add_comm 1 i] using this) hD.2 h.2 j o (by simpa using hj)
      rwa [Nat.add_assoc,Nat.add_comm 1 j] at this
theorem d_y {K:Nat → Prop} {w0:World} {l:List Oper} (n:Nat) (nxt:List Nat) (hR0:∀ g,R g g) (hRt:∀ a b c,R a b → R b c → R a c) (hRd:R (fun _=>none,w0) (fun _=>none,{ w0 with drawn:=w0.drawn + 1 })) (Fs:List (Value → GW → Prop)) (D:List (List (Nat × Nat))) (hm:P.follows .mixedOrders = true) (hB:a_z l.toArray a0.tmps.size = true) (hsel:Region.noSelect l.toArray = true) (hsuf:sufB l.toArray n nxt = true)
    (hD:a_5 (a_X (l.take n).toArray) l.toArray (l.take n) D = true) (hlen:Fs.length = (l.take n).length) (hst:∀ f ∈ Fs,∀ v g g',R g g' → f v g → f v g') (h:RunAllG R P l.toArray a0 (fun _=>none,w0) Q Fs 0 (l.take n) D) (hend:∀ g,R (fun _=>none,w0) g → EndEG g (fun a=>wpList P l.toArray Q (l.drop n) a g.2) Fs (l.take n) a0):e_d P l Q a0 w0:=by
  unfold e_d
  have hst':∀ (i:Nat) v w w',R w w' → (fun i=>Fs.getD i (fun _ _=>True)) i v w → (fun i=>Fs.getD i (fun _ _=>True)) i v w':=by
    intro i v w w' hb hF
    simp only [List.getD_eq_getElem?_getD] at hF ⊢
    cases hi:Fs[i]? with
    | none=>trivial
    | some f=>rw [hi] at hF;exact hst f (List.mem_of_getElem? hi) v w w' hb hF
  have hs:∀ i o,i < n → l.toArray[i]? = some o → d_f (a_X (l.take n).toArray) R P l.toArray (fun i=>Fs.getD i (fun _ _=>True)) a0 (fun _=>none,w0) Q i o:=by
    intro i o hi ho
    have:=RunAllG.get hB hsel (l.take n) 0 D (fun j p hp=>by
      rcases Nat.lt_or_ge j n with h1 | h1
      · rw [List.getElem?_take_of_lt h1] at hp;simpa using hp
      · rw [List.getElem?_take_eq_none h1] at hp;cases hp) hD h i o (by rw [List.getElem?_take_of_lt hi];simpa using ho)
    rwa [Nat.zero_add] at this
  have hac:∀ (i:Nat) (o:Oper),l.toArray[i]? = some o → ∀ e ∈ o.after,Region.binds .any e = true → e.on < i:=by
    have hB':=hB
    simp only [a_z,Bool.and_eq_true,decide_eq_true_eq,List.all_eq_true] at hB'
    intro i o ho e he hb
    have:=hB'.2 (o,i) (by
      rw [List.mem_zipIdx_iff_getElem?]
      simpa using ho)
    simp only [Array.all_eq_true_iff_forall_mem] at this
    have:=this e he
    simpa [hb] using this
  have hfin:∀ {listed:Array Bool} {a:Act} {g:GW},RInvG R l.toArray n (fun i=>Fs.getD i (fun _ _=>True)) a0 (fun _=>none,w0) listed a g → (∀ i,i < n → i < l.toArray.size → listed.getD i false = true) → wpList P l.toArray Q (l.toArray.toList.drop n) a g.2:=by
    intro listed a g hi hall
    refine RInvG.finish hB hi hall (K:=fun a=>wpList P l.toArray Q (l.toArray.toList.drop n) a g.2) ?_
    exact EndEG.ok Fs _ 0 (l.take n) a0 hlen (fun j=>by rw [Nat.zero_add];exact c_d Fs j) (hend g hi.below)
  refine c_C (I:=fun listed a w=>(∃ M,RInvG R l.toArray n (fun i=>Fs.getD i (fun _ _=>True)) a0 (fun _=>none,w0) listed a (M,w)) ∨ ∃ k,n ≤ k ∧ listed.size = l.toArray.size ∧ (∀ i,listed.getD i false = true ↔ i < k ∧ i < l.toArray.size) ∧ wpList P l.toArray Q (l.toArray.toList.drop k) a w)
    (fun listed a w i hI hi=>?_) (fun listed a w hI hr=>?_) _ _ _ _ ?_ ?_
  · obtain ⟨hun,o,ho,hall⟩:=mem_ready.1 hi
    rcases hI with ⟨M,hI⟩ | ⟨k,hnk,hsz,hk,hw⟩
    · rcases Nat.lt_or_ge i n with hin | hin
      · exact wpOp_mono (fun a w h=>.inl h) (RInvG.step hR0 hRt hB hst' hin (fun o ho=>hs i o hin ho) hI hi)
      · have hbefore:∀ j,j < i → listed.getD j false = true:=fun j hj=>sufB.before hsuf hI.closed ho hin hall (i - j - 1) j (by omega)
        have hi_n:i = n:=by
          rcases Nat.lt_or_ge n i with h1 | h1
          · have:=hbefore n h1
            rw [hI.late n (Nat.le_refl n)] at this
            cases this
          · omega
        subst hi_n
        have hw:=hfin hI (fun j hj _=>hbefore j hj)
        refine wpOp_mono (fun a w h=>.inr ⟨i + 1,by omega,h⟩) (c_x hI.size (fun j=>⟨fun hj=>?_,fun hj=>hbefore j hj.1⟩) hw ho)
        constructor
        · rcases Nat.lt_or_ge j i with h1 | h1
          · exact h1
          · rw [hI.late j h1] at hj;cases hj
        · rcases Nat.lt_or_ge j l.toArray.size with h1 | h1
          · exact h1
          · have:listed.size ≤ j:=by rw [hI.size];exact h1
            simp [Array.getD_eq_getD_getElem?,Nat.not_lt.2 this] at hj
    · have hil:i < l.toArray.size:=by
        rcases Nat.lt_or_ge i l.toArray.size with h | h
        · exact h
        · rw [Array.getElem?_eq_none h] at ho;cases ho
      have hki:k ≤ i:=by
        rcases Nat.lt_or_ge i k with h1 | h1
        · have:=(hk i).2 ⟨h1,hil⟩
          rw [(unlisted_lt hi).2] at this
          cases this
        · exact h1
      have:i = k:=by
        rcases Nat.lt_or_ge k i with h1 | h1
        · have hcl:c_m l.toArray listed:=fun j p hj hp e he hb=>(hk _).2 (by
            have:=(hk j).1 hj
            have:=hac j p hp e he hb
            omega)
          have:=(hk k).1 (sufB.before hsuf hcl ho (by omega) hall (i - k - 1) k (by omega))
          omega
        · omega
      subst this
      exact wpOp_mono (fun a w h=>.inr ⟨i + 1,by omega,h⟩) (c_x hsz hk hw ho)
  · rcases hI with ⟨M,hI⟩ | ⟨k,hnk,hsz,hk,hw⟩
    · have hall:=b_E hI.size hac hr
      have hw:=hfin hI (fun i _ hi=>hall i hi)
      have:l.toArray.toList.drop n = []:=by
        rw [List.drop_eq_nil_iff]
        rcases Nat.lt_or_ge n l.toArray.size with h1 | h1
        · have:=hall n h1
          rw [hI.late n (Nat.le_refl n)] at this
          cases this
        · simpa using h1
      rw [this] at hw
      exact hw
    · have hall:=b_E hsz hac hr
      have:l.toArray.toList.drop k = []:=by
        rw [List.drop_eq_nil_iff]
        rcases Nat.lt_or_ge k l.toArray.size with h1 | h1
        · have:=(hk k).1 (hall k h1)
          omega
        · simpa using h1
      rw [this] at hw
      exact hw
  · refine Nat.le_trans (List.length_filter_le _ _) (by simp)
  · have hf:∀ i,(Array.replicate l.toArray.size false).getD i false = false:=fun i=>by
      rcases Nat.lt_or_ge i l.length with hi | hi
      · simp [Array.getD_eq_getD_getElem?,hi]
      · simp [Array.getD_eq_getD_getElem?,Nat.not_lt.2 hi]
    refine .inl ⟨fun _=>none,by simp,rfl,rfl,hRd,fun _ _=>rfl,fun i o d hl=>?_,fun i o hl=>?_,fun i _=>hf i,fun i o hl=>?_,fun _ _=>rfl⟩
    · rw [hf i] at hl;cases hl
    · rw [hf i] at hl;cases hl
    · rw [hf i] at hl;cases hl
end
end Go.Proofs.Ytmcpcdmonglkjaa
namespace Go.Proofs.Ytmcpcdmonglkjaa
open Go.RowKit
def lm (I:List Nat) (L:List (Option Nat)) (M:Nat → Option (Option Nat)):List (Option Nat):=I.map (fun i=>(M i).join) ++ L
def b_y (M:Nat → Option (Option Nat)) (i:Nat) (o:Option Nat):Nat → Option (Option Nat):=fun j=>if j = i then some o else M j
theorem lm_upd {M:Nat → Option (Option Nat)} {L:List (Option Nat)} {i:Nat} {o:Option Nat}:∀ {I:List Nat},I.Nodup → i ∈ I → ∃ l',l'.Sublist (lm I L M) ∧ (lm I L (b_y M i o)).Perm (o :: l')
  | [],_,h=>by cases h
  | j :: J,hn,h=>by
    obtain ⟨hj,hn⟩:=List.nodup_cons.1 hn
    by_cases hij:j = i
    · subst hij
      refine ⟨lm J L M,List.sublist_cons_self _ _,?_⟩
      have:lm J L (b_y M j o) = lm J L M:=by
        unfold lm
        congr 1
        refine List.map_congr_left fun k hk=>?_
        have:k ≠ j:=fun e=>hj (e ▸ hk)
        simp [b_y,this]
      have e:lm (j :: J) L (b_y M j o) = o :: lm J L (b_y M j o):=by simp [lm,b_y]
      rw [e,this]
    · have hi:i ∈ J:=by
        rcases List.mem_cons.1 h with e | h
        · exact absurd e.symm hij
        · exact h
      obtain ⟨l',h1,h2⟩:=lm_upd (M:=M) (L:=L) (o:=o) hn hi
      refine ⟨(M j).join :: l',by exact List.Sublist.cons_cons _ h1,?_⟩
      have e:lm (j :: J) L (b_y M i o) = (M j).join :: lm J L (b_y M i o):=by simp [lm,b_y,hij]
      rw [e]
      exact (List.Perm.cons _ h2).trans (List.Perm.swap _ _ _)
theorem lm_mem {M:Nat → Option (Option Nat)} {L:List (Option Nat)} {I:List Nat} {i:Nat} {o x:Option Nat} (hn:I.Nodup) (hi:i ∈ I) (h:x ∈ lm I L (b_y M i o)):x ∈ o :: lm I L M:=by
  obtain ⟨l',h1,h2⟩:=lm_upd (M:=M) (L:=L) (o:=o) hn hi
  rcases List.mem_cons.1 (h2.mem_iff.1 h) with e | hm
  · exact List.mem_cons.2 (.inl e)
  · exact List.mem_cons.2 (.inr (h1.subset hm))
theorem c_O {L:List (Option Nat)} {I:List Nat} {c:Nat} (h:some c ∈ lm I L fun _=>none):some c ∈ L:=by
  rcases List.mem_append.1 h with h | h
  · obtain ⟨i,_,e⟩:=List.mem_map.1 h
    cases e
  · exact h
section
variable {w0 w w':World} {L:List (Option Nat)} {K:Nat → Prop} {n b:Nat} {t:GT} {I:List Nat} {M:Nat → Option (Option Nat)}
theorem Wd.lm0:∀ (I:List Nat),Wd w0 w L → Wd w0 w (lm I L fun _=>none)
  | [],h=>h
  | i :: I,h=>(Wd.lm0 I h).more
theorem Wd.lay {i:Nat} {o:Option Nat} (h:Wd w0 w (lm I L M)) (hN:NewO w w' o) (hn:I.Nodup) (hi:i ∈ I):Wd w0 w' (lm I L (b_y M i o)):=by
  have h1:=h.newO hN
  obtain ⟨l',hs,hp⟩:=lm_upd (M:=M) (L:=L) (o:=o) hn hi
  have h2:=h1.less (List.Sublist.cons_cons o hs)
  refine ⟨h2.below,fun c hc=>h2.own c (hp.mem_iff.1 hc),(hp.pairwise_iff fun {x y} h=>?_).2 h2.dis⟩
  rcases h with h | h
  · subst h
    cases y with
    | none=>exact .inl rfl
    | some y=>exact .inr (by simp)
  · exact .inr fun e=>h e.symm
structure Gr (w0:World) (I:List Nat) (L:List (Option Nat)) (g g':GW):Prop where
  below:Below g.2.heap.size g.2 g'.2
  same:∀ j o,g.1 j = some o → g'.1 j = some o
  new:∀ j b,g.1 j = none → g'.1 j = some (some b) → g.2.heap.size ≤ b
  wd:Wd w0 g.2 (lm I L g.1) → Wd w0 g'.2 (lm I L g'.1)
theorem Gr.refl (g:GW):Gr w0 I L g g:=⟨Below.refl _ _,fun _ _ h=>h,fun j b h h'=>(by rw [h] at h';cases h'),id⟩
theorem Gr.trans (a b c:GW) (h:Gr w0 I L a b) (k:Gr w0 I L b c):Gr w0 I L a c :=
  ⟨c_i h.below k.below,fun j o e=>k.same j o (h.same j o e),fun j x e e'=>by
    cases hb:b.1 j with
    | none=>have:=k.new j x hb e';have:=h.below.size;omega
    | some o =>
      have:=k.same j o hb
      rw [e'] at this
      obtain rfl:some x = o:=Option.some.inj this
      exact h.new j x e hb,fun e=>k.wd (h.wd e)⟩
theorem Gr.ofBelow (hb:Below w.heap.size w w'):Gr w0 I L (M,w) (M,w'):=⟨hb,fun _ _ h=>h,fun j b h h'=>(by have h:M j = none:=h;have h':M j = some (some b):=h';rw [h] at h';cases h'),fun h=>h.step hb⟩
theorem Gr.drawn (w:World):Gr w0 I L (M,w) (M,{ w with drawn:=w.drawn + 1 }):=Gr.ofBelow ⟨rfl,rfl,rfl,Nat.le_refl _,fun _ _=>rfl⟩
theorem Gr.lay {i:Nat} {o:Option Nat} (hN:NewO w w' o) (hM:M i = none) (hn:I.Nodup) (hi:i ∈ I):Gr w0 I L (M,w) (b_y M i o,w') :=
  ⟨hN.below,fun j x h=>(by
    have h:M j = some x:=h
    have:j ≠ i:=fun e=>by rw [e,hM] at h;cases h
    show b_y M i o j = some x
    simpa [b_y,this] using h),fun j b h h'=>(by
    have h:M j = none:=h
    have h':b_y M i o j = some (some b):=h'
    by_cases e:j = i
    · subst e
      simp [b_y] at h'
      exact hN.ge b h'
    · simp [b_y,e] at h'
      rw [h] at h';cases h'),fun h=>Wd.lay h hN hn hi⟩
theorem Gr.kk {g g':GW} (h:Gr w0 I L g g') {c:Nat} (hc:c < g.2.heap.size) (hk:Kx K n (lm I L g.1) c):Kx K n (lm I L g'.1) c:=⟨hk.1,fun hm=>by
  rcases List.mem_append.1 hm with hm | hm
  · obtain ⟨i,hi,e⟩:=List.mem_map.1 hm
    cases hg:g.1 i with
    | none =>
      cases hg':g'.1 i with
      | none=>rw [hg'] at e;cases e
      | some o =>
        rw [hg'] at e
        have e:o = some c:=e
        have:=h.new i c hg (by rw [hg',e])
        omega
    | some o =>
      rw [h.same i o hg] at e
      exact hk.2 (List.mem_append.2 (.inl (List.mem_map.2 ⟨i,hi,by rw [hg];exact e⟩)))
  · exact hk.2 (List.mem_append.2 (.inr hm))⟩
theorem RepV.lm0 {u:Value} {x:PT t} (h:RepV t w (Kx K n L) u x):RepV t w (Kx K n (lm I L fun _=>none)) u x:=h.keep (Keeps.refl _ _) fun c _ hk=>⟨hk.1,fun hm=>hk.2 (c_O hm)⟩
theorem Bx.lm0 {T:TypeId} {x:PT t} (h:Bx t T w (Kx K n L) b x):Bx t T w (Kx K n (lm I L fun _=>none)) b x:=by
  obtain ⟨cs,h1,h2⟩:=h
  exact ⟨cs,h1,h2.keep (Keeps.refl _ _) fun c _ hk=>⟨hk.1,fun hm=>hk.2 (c_O hm)⟩⟩
theorem Ow.lm0 {e:GT} {E:TypeId} {v:Value} {xs:List (PT e)} {c:Option Nat} {m:Nat} (h:Ow e E w m (Kx K n L) v xs c):Ow e E w m (Kx K n (lm I L fun _=>none)) v xs c:=by
  obtain ⟨cs,h1,h2,h3⟩:=h
  exact ⟨cs,h1,h2.keep (Keeps.refl _ _) fun c _ hk=>⟨hk.1,fun hm=>hk.2 (c_O hm)⟩,h3⟩
theorem Bx.laid {T:TypeId} {x:PT t} {i:Nat} {o:Option Nat} (h:Bx t T w (Kx K n (o :: lm I L M)) b x) (hn:I.Nodup) (hi:i ∈ I):Bx t T w (Kx K n (lm I L (b_y M i o))) b x:=by
  obtain ⟨cs,h1,h2⟩:=h
  exact ⟨cs,h1,h2.keep (Keeps.refl _ _) fun c _ hk=>⟨hk.1,fun hm=>hk.2 (lm_mem hn hi hm)⟩⟩
theorem Ow.laid {e:GT} {E:TypeId} {v:Value} {xs:List (PT e)} {c:Option Nat} {m i:Nat} {o:Option Nat} (h:Ow e E w m (Kx K n (o :: lm I L M)) v xs c) (hn:I.Nodup) (hi:i ∈ I):Ow e E w m (Kx K n (lm I L (b_y M i o))) v xs c:=by
  obtain ⟨cs,h1,h2,h3⟩:=h
  exact ⟨cs,h1,h2.keep (Keeps.refl _ _) fun c _ hk=>⟨hk.1,fun hm=>hk.2 (lm_mem hn hi hm)⟩,h3⟩
theorem NewB.newO (h:NewB w w' b):NewO w w' (some b):=⟨h.below,fun c e=>by obtain rfl:=Option.some.inj e;exact h.ge,fun c e=>by obtain rfl:=Option.some.inj e;exact h.lt⟩
end
def eqvG (x:Value):Value → GW → Prop:=fun v _=>v = x
def isIG (k:IntKind) (x:Int):Value → GW → Prop:=fun v _=>v = .int k x ∧ InR k x
def StabG (w0:World) (I:List Nat) (L:List (Option Nat)) (f:Value → GW → Prop):Prop:=∀ v g g',Gr w0 I L g g' → f v g → f v g'
section
variable {w0:World} {I:List Nat} {L:List (Option Nat)} {K:Nat → Prop} {n:Nat} {t:GT}
def cndG (b w:Bool) (f:Value → GW → Prop):Value → GW → Prop:=fun v W=>(b = w → f v W) ∧ (¬ b = w → v = undef)
theorem cndG.pos {b w:Bool} {f:Value → GW → Prop} {v:Value} {W:GW} (h:cndG b w f v W) (hc:b = w):f v W:=h.1 hc
theorem cndG.neg {b w:Bool} {f:Value → GW → Prop} {v:Value} {W:GW} (h:cndG b w f v W) (hc:¬ b = w):v = undef:=h.2 hc
def StabGL (w0:World) (I:List Nat) (L:List (Option Nat)):List (Value → GW → Prop) → Prop
  | []=>True
  | f :: fs=>StabG w0 I L f ∧ StabGL w0 I L fs
theorem StabGL.all:∀ {Fs:List (Value → GW → Prop)},StabGL w0 I L Fs → ∀ f ∈ Fs,∀ v g g',Gr w0 I L g g' → f v g → f v g'
  | f :: fs,h,g,hg=>by
    rcases List.mem_cons.1 hg with rfl | hg
    · exact h.1
    · exact StabGL.all h.2 g hg
variable {ds:List Deferred} {N d i:Nat} {A a0:Act} {l:List (Nat × Value)} {v:Value} {f:Value → GW → Prop} {w w':World} {Q:Exit → Act → World → Prop} {M:Nat → Option (Option Nat)} {P:Program}
theorem RPostG.mk_ (S:StD ds N A l) (hd:lk l d = some v) (h0:a0.defers = ds) (hf:f v (M,w')) (hb:Below w.heap.size w w'):RPostG (Gr w0 I L) i (some d) f a0.defers (M,w) Q .normal A w':=by
  refine ⟨M,S.defers.trans h0.symm,?_,Gr.ofBelow hb,fun _ _=>rfl⟩
  rw [show b_d (some d) A = v by simp [b_d,S.at_ d v hd]]
  exact hf
theorem RPostG.lay (S:StD ds N A l) (hd:lk l d = some v) (h0:a0.defers = ds) (o:Option Nat) (hN:NewO w w' o) (hM:M i = none) (hn:I.Nodup) (hi:i ∈ I) (hf:f v (b_y M i o,w')):RPostG (Gr w0 I L) i (some d) f a0.defers (M,w) Q .normal A w':=by
  refine ⟨b_y M i o,S.defers.trans h0.symm,?_,Gr.lay hN hM hn hi,fun j hj=>by simp [b_y,hj]⟩
  rw [show b_d (some d) A = v by simp [b_d,S.at_ d v hd]]
  exact hf
end
end Go.Proofs.Ytmcpcdmonglkjaa
namespace Go.Proofs.Ytmcpcdmonglkjaa
open Go.RowKit
section
variable {ds:List Deferred} {N:Nat} {a:Act} {l:List (Nat × Value)} {w w0:World} {P:Program} {ops:Array Oper} {Q:Exit → Act → World → Prop} {rest:List Oper} {o:Oper} {Kont:Act → World → Prop} {d:Nat} {K:Nat → Prop} {n:Nat} {L:List (Option Nat)}
theorem op_rowN (S:StD ds N a l) (W:Wd w0 w L) {T E0:TypeId} {len:Nat} {parts:Array (Nat × Operand)} {e:GT} {vs:List Value} {xs:List (PT e)} (ho:o.op = .buildSlice T len parts) (ht:tie P (.sl e) false T [] 0 = true) (hE0:P.underlying T = some (.slice E0)) (hp:e.isPair = false) (hsz:Nat.blt 0 (len * e.sz) = true) (hzero:zeroB P T = true) (hd:o.dst = some d) (hN:Nat.blt d N = true)
    (hv:evs l (parts.toList.map (·.2)) = some vs) (hparts:parts.toList.map (·.1) = List.range len) (hsmall:Nat.ble (len * e.sz) 16777216 = true) (R:RepVs e w (Kx K w0.heap.size L) vs xs)
    (k:∀ a' w' b,NewB w w' b → Ow e E0 w' w0.heap.size (Kx K w0.heap.size (some b :: L)) (.slice (some ⟨b,0,.none⟩) len len) xs (some len) → StD ds N a' ((d,.slice (some ⟨b,0,.none⟩) len len) :: l) → Kont a' w'):o.wp P a w Kont Q:=by
  obtain ⟨h1,h2,h3⟩:=R.css hp
  obtain ⟨E,hE,htE⟩:=b_c ht
  obtain rfl:E0 = E:=by rw [hE0] at hE;injection hE with h;injection h
  obtain ⟨ie,hie,hse⟩:=a_J htE
  have hvl:vs.length = len:=by
    have hm:=S.evs hv
    have:=congrArg List.length hparts
    rw [← hm]
    simpa using this
  obtain ⟨z,hz⟩:∃ z,ie.zero = some z:=by
    unfold zeroB at hzero
    rw [hE] at hzero
    simp only [hie,Option.any_some] at hzero
    exact Option.isSome_iff_exists.1 hzero
  have hpl:(parts.map fun (p:Nat × Operand)=>(p.1,a.eval p.2)).toList = b_1 0 vs:=by
    have hm:=S.evs hv
    have key:∀ (ps:List (Nat × Operand)) (us:List Value) (i:Nat),ps.map (·.1) = List.range' i ps.length → (ps.map (·.2)).map a.eval = us → ps.map (fun p=>(p.1,a.eval p.2)) = b_1 i us:=by
      intro ps
      induction ps with
      | nil=>intro us i _ h;simp at h;subst h;rfl
      | cons p ps ih =>
        intro us i h1 h2
        rw [List.map_cons,List.length_cons,List.range'_succ] at h1
        injection h1 with h1a h1b
        rw [List.map_cons,List.map_cons] at h2
        subst h2
        rw [List.map_cons,h1a]
        unfold b_1
        rw [ih _ (i + 1) h1b rfl]
    rw [Array.toList_map]
    refine key parts.toList vs 0 ?_ hm
    rw [hparts,List.range_eq_range']
    have:=congrArg List.length hparts
    simp at this
    simp [this]
  have hfill:Instr.fill (fun i=>some (i * ie.size,ie.size)) ((Array.range (len * ie.size)).map (z.cells[· % z.cells.size]!)) (parts.map fun (p:Nat × Operand)=>(p.1,a.eval p.2)).toList = some (vs.map fun v=>v.cells.toList).flatten.toArray:=by
    rw [hpl]
    have:=c_I ie.size vs 0 [] ((Array.range (len * ie.size)).map (z.cells[· % z.cells.size]!)).toList (fun v hv=>by rw [hse];exact h2 v hv) (by simp) (by simp [hvl])
    simpa only [List.nil_append,Array.toArray_toList] using this
  have hrun:=run_bsl (P:=P) (w:=w) T E0 len (parts.map fun (p:Nat × Operand)=>(p.1,a.eval p.2)) _ ie z hE hie hz (by rw [hse];simpa [Nat.ble_eq,Nat.not_lt] using hsmall) (by rw [hse];simp [Nat.blt_eq] at hsz;omega) hfill
  have hle:len ≤ 16777216:=by
    simp only [Nat.ble_eq,Nat.blt_eq] at hsmall hsz
    have hz:0 < e.sz:=Nat.pos_of_ne_zero fun h=>by rw [h] at hsz;simp at hsz
    have:=Nat.le_mul_of_pos_right len hz
    omega
  have hnew:=a_P w (.cells (vs.map fun v=>v.cells.toList).flatten.toArray E0)
  have harr:=RepCs.arrOf (e:=e) (w:=w) (K:=Kx K w0.heap.size L) (css:=vs.map fun v=>v.cells.toList) (by simp [h1]) h3
  have hxl:xs.length = len:=by omega
  have hfl:(vs.map fun v=>v.cells.toList).flatten.length = len * e.sz:=by
    have:=harr.len
    rw [GT.sz,hxl] at this
    exact this
  refine a_B S (v:=.slice (some ⟨w.heap.size,0,.none⟩) len len) (w':=w.alloc (.cells (vs.map fun v=>v.cells.toList).flatten.toArray E0)) hd hN ?_ fun a'=>k a' _ w.heap.size hnew ⟨(vs.map fun v=>v.cells.toList).flatten,⟨by rw [hxl];exact hfl,.inr ⟨w.heap.size,len,_,by rw [hxl],W.below.size,heap_alloc_new w _,by omega,by simp only [maxLen];omega,by simpa using hfl,?_⟩⟩,?_,fun q hq=>by obtain rfl:=Option.some.inj hq;exact ⟨_,_,rfl⟩⟩
  · have hpm:parts.map (fun (x:Nat × Operand)=>match x with | (i,x)=>(i,a.eval x)) = parts.map fun (p:Nat × Operand)=>(p.1,a.eval p.2):=rfl
    simp only [execOp,ho]
    simp [hrun,hpm]
  · rw [List.toList_toArray,hxl,← hfl,List.take_length]
  · exact harr.keep (Keeps.below hnew.below) fun c hc hk=>Kx.newO hnew.newO hc hk
end
end Go.Proofs.Ytmcpcdmonglkjaa
namespace Go.Proofs.Ytmcpcdmonglkjaa
open Go.RowKit
def Fr (r:Option Nat):Fence:={ Fence.wide with round:=r }
def b_D (o:Oper):Bool:=match o.op with | .defer _=>false | _=>true
def CI (r:Option Nat) (P:Program) (c:Code) (Q:Exit → Act → World → Prop) (a:Act) (w:World):Prop:=¬ LetsOut Q → c.wpIn (Fr r) 0 P Q a w
def LI (r:Option Nat) (P:Program) (ops:Array Oper) (Q:Exit → Act → World → Prop) (l:List Oper) (a:Act) (w:World):Prop:=¬ LetsOut Q → wpListIn (Fr r) 0 P ops Q l a w
theorem d_T {r:Option Nat} {ρ:Operand → Value} {o:Oper} (h:b_D o = true):o.semAt (Fr r).round ρ = execOp ρ o:=by
  cases r with
  | none=>exact Oper.semAt_none ρ o
  | some l =>
    refine Oper.semAt_some l ρ o fun c hc=>?_
    unfold b_D at h
    rw [hc] at h
    cases h
section
variable {r:Option Nat} {ds:List Deferred} {N:Nat} {a:Act} {l:List (Nat × Value)} {w w0:World} {P:Program} {ops:Array Oper} {Q:Exit → Act → World → Prop} {rest:List Oper} {o:Oper} {Kont K:Act → World → Prop} {d:Nat}
theorem rowsIn_of {row:String} {args:Array Value} {R:Value → World → Prop} (h:Rows P row args w R):RowsIn (Fr r) 0 P row args w R:=by
  intro c cs _
  obtain ⟨v,w',hr,hs⟩:=h c cs
  exact ⟨v,w',hr,stepsIn_wide.2 hs⟩
theorem c_3 {f:FuncId} {args:Array Value} {R:Ending → World → Prop} (h:Calls P f args w R):CallsIn (Fr r) 0 P f args w R:=callsIn_wide.2 h
theorem wpIn_of (hd:b_D o = true) (h:o.wp P a w K Q):o.wpIn (Fr r) 0 P a w K Q:=by
  refine ⟨fun _ _=>trivial,?_⟩
  rw [d_T hd]
  unfold Oper.wp at h
  generalize (execOp a.eval o).run P w = q at *
  cases q with
  | ok n w' =>
    cases n <;> simp only [Oper.upon,Oper.uponIn] at h ⊢
    case value=>exact h
    case skip=>exact h
    case defer=>exact h
    case enter=>exact ⟨fun h=>by simp [Fr,Fence.wide] at h,c_3 h⟩
    case row=>exact ⟨fun h=>by simp [Fr,Fence.wide] at h,rowsIn_of h⟩
  | halt x w'=>cases x <;> simp only [Oper.upon,Oper.uponIn] at h ⊢ <;> exact h
theorem b_l {y:Act → World → Prop} (hQ:¬ LetsOut Q):¬ LetsOut (Exit.then y Q):=fun ⟨a,w,h⟩=>hQ ⟨a,w,h⟩
theorem d_N {id:Nat} (hQ:¬ LetsOut Q):¬ LetsOut (Exit.inBlock id Q):=fun ⟨a,w,h⟩=>hQ ⟨a,w,h⟩
namespace R
theorem wp_seq {x y:Code} (h:CI r P x (Exit.then (CI r P y Q) Q) a w):CI r P (.seq x y) Q a w:=fun hQ =>
  wpIn_seq (wpIn_mono (h (b_l hQ)) fun e a w he=>by
    cases e with
    | normal=>exact he hQ
    | _=>exact he)
theorem wp_skip (h:Q .normal a w):CI r P .skip Q a w:=fun _=>wpIn_skip h
theorem wp_ret (h:Q .ret a w):CI r P .ret Q a w:=fun _=>wpIn_ret h
theorem wp_exit {id:Nat} (h:Q (.exit id) a w):CI r P (.exit id) Q a w:=fun _=>wpIn_exit h
theorem wp_block {id:Nat} {c:Code} (h:CI r P c (Exit.inBlock id Q) a w):CI r P (.block id c) Q a w:=fun hQ=>wpIn_block (h (d_N hQ))
theorem wp_cond_split {c:Operand} {x y:Code} {t:Bool} (hc:a.eval c = .bool t) (ht:t = true → CI r P x Q a w) (hf:t = false → CI r P y Q a w):CI r P (.cond c x y) Q a w:=fun hQ =>
  wpIn_cond_split hc (fun h=>ht h hQ) (fun h=>hf h hQ)
theorem a_s {x:Code} (M:Act → World → Prop) (h1:CI r P x (Exit.then M Q) a w) (h2:∀ a' w',M a' w' → Q .normal a' w'):CI r P x Q a w:=fun hQ =>
  wpIn_mono (h1 (b_l hQ)) fun e a' w' h=>by
    cases e with
    | normal=>exact h2 a' w' h
    | _=>exact h
theorem a_w {c:Code} (I:Nat → Act → World → Prop) (n:Nat) (h0:I n a w) (round:∀ n a w,I n a w → ∃ m,n = m + 1 ∧ CI r P c (Exit.then (I m) Q) a w):CI r P (.loop c) Q a w:=by
  intro hQ
  refine wpIn_loop (fun a w=>∃ n,I n a w) (fun a w=>leastOf (fun n=>I n a w)) ⟨n,h0⟩ fun a w hI=>?_
  obtain ⟨m,hm,hr⟩:=round _ a w (leastOf_spec hI).1
  refine wpIn_mono (hr (b_l hQ)) fun e a' w' hq=>?_
  cases e with
  | normal=>exact show (∃ n,I n a' w') ∧ leastOf (fun n=>I n a' w') < leastOf (fun n=>I n a w) from (by
    have hq:I m a' w':=hq
    refine ⟨⟨m,hq⟩,?_⟩
    have:=(leastOf_spec (p:=fun n=>I n a' w') ⟨m,hq⟩).2 m hq
    omega)
  | _=>exact hq
theorem wp_region_lit {id:Nat} {l:List Oper} (h:LI r P l.toArray Q l a w):CI r P (.region id l.toArray false) Q a w:=fun hQ=>wpIn_region_lit (h hQ)
theorem wpList_nil (h:Q .normal a w):LI r P ops Q [] a w:=fun _=>h
theorem w_go (S:StD ds N a l) (hg:gOk ops l o = some true) (h:o.wp P a w (LI r P ops Q rest) Q) (hd:b_D o = true:=by rfl):LI r P ops Q (o :: rest) a w:=by
  intro hQ
  unfold wpListIn
  rw [if_pos (gOk.wanted S hg)]
  exact Oper.wpIn_mono (fun a w h=>h hQ) (wpIn_of hd h)
theorem c_q (S:StD ds N a l) (hg:gOk ops l o = some false) (h:LI r P ops Q rest (a.put o.dst undef) w):LI r P ops Q (o :: rest) a w:=by
  intro hQ
  unfold wpListIn
  rw [if_neg (by rw [gOk.wanted S hg];exact Bool.false_ne_true)]
  exact ⟨fun _ _=>trivial,h hQ⟩
theorem a_V (tys:List (TypeId × GT)) (ht:tysOk P tys = true):∀ (l1:List Oper) {l2:List Oper} {a:Act} {l l':List (Nat × Value)},StD ds N a l → a_r tys ops N l1 l = some l' → (∀ a',StD ds N a' l' → LI r P ops Q l2 a' w) → LI r P ops Q (l1 ++ l2) a w
  | [],l2,a,l,l',S,h,k=>by
    simp only [a_r,Option.some.injEq] at h
    subst h
    exact k a S
  | o :: l1,l2,a,l,l',S,h,k=>by
    unfold a_r at h
    split at h
    · rename_i d hg hd
      split at h
      · rename_i v hv
        split at h
        · rename_i hN
          exact w_go S hg (a_B S hd hN (c_G S o tys ht hv) fun a' S'=>a_V tys ht l1 S' h k) (by
            unfold b_D
            split
            · rename_i c hc;rw [hc] at hv;simp [pureOp] at hv
            · rfl)
        · cases h
      · cases h
    · rename_i d hg hd
      split at h
      · rename_i hN
        refine c_q S hg ?_
        rw [hd]
        exact a_V tys ht l1 (S.put (by simpa [Nat.blt_eq] using hN) undef) h k
      · cases h
    · rename_i hg hd
      refine c_q S hg ?_
      rw [hd]
      exact a_V tys ht l1 S h k
    · cases h
theorem a_G (S:StD ds N a l) (tys:List (TypeId × GT)) (ht:tysOk P tys = true) (m:Nat) {l0:List Oper} {l':List (Nat × Value)} (h:a_r tys ops N (l0.take m) l = some l')
    (k:∀ a',StD ds N a' l' → LI r P ops Q (l0.drop m) a' w):LI r P ops Q l0 a w:=by
  rw [← List.take_append_drop m l0]
  exact a_V tys ht _ S h k
theorem cut_:∀ (l1:List Oper) {l2:List Oper} {a:Act} {w:World} (M:Act → World → Prop),LI r P ops (Exit.then M Q) l1 a w → (∀ a' w',M a' w' → LI r P ops Q l2 a' w') → LI r P ops Q (l1 ++ l2) a w
  | [],l2,a,w,M,h1,h2=>fun hQ=>h2 a w (h1 (b_l hQ)) hQ
  | o :: l1,l2,a,w,M,h1,h2=>by
    intro hQ
    have h1:=h1 (b_l hQ)
    have ih:=fun a w (h:wpListIn (Fr r) 0 P ops (Exit.then M Q) l1 a w)=>cut_ l1 (l2:=l2) (a:=a) (w:=w) M (fun _=>h) h2 hQ
    show wpListIn (Fr r) 0 P ops Q (o :: (l1 ++ l2)) a w
    unfold wpListIn at h1 ⊢
    split
    · rename_i hw
      rw [if_pos hw] at h1
      refine ⟨fun _ _=>trivial,?_⟩
      have h1:=h1.2
      generalize (o.semAt (Fr r).round a.eval).run P w = q at *
      cases q with
      | ok n w' =>
        cases n <;> simp only [Oper.uponIn] at h1 ⊢ <;> try exact ih _ _ h1
        · refine ⟨h1.1,CallsIn.mono h1.2 fun e w'' h=>?_⟩
          cases e with
          | returned v=>exact ih _ _ h
          | panicked c=>exact h
          | outgrown=>obtain ⟨a0,w0,h0⟩:=h;exact ⟨a0,w0,h0⟩
        · refine ⟨h1.1,RoundIn.mono h1.2 fun e w'' h=>?_⟩
          cases e with
          | returned v=>exact ih _ _ h
          | panicked c=>exact h
          | outgrown=>obtain ⟨a0,w0,h0⟩:=h;exact ⟨a0,w0,h0⟩
        · exact ⟨h1.1,RowsIn.mono h1.2 fun v w'' h=>ih _ _ h⟩
      | halt x w' =>
        cases x <;> simp only [Oper.uponIn] at h1 ⊢
        exact h1
    · rename_i hw
      rw [if_neg hw] at h1
      exact ⟨fun _ _=>trivial,ih _ _ h1.2⟩
theorem seg (m:Nat) (M:Act → World → Prop) {l0:List Oper} (h1:LI r P ops (Exit.then M Q) (l0.take m) a w) (h2:∀ a' w',M a' w' → LI r P ops Q (l0.drop m) a' w'):LI r P ops Q l0 a w:=by
  rw [← List.take_append_drop m l0]
  exact cut_ _ M h1 h2
theorem wpAny_in {md:Region.Mode} (hQ:¬ LetsOut Q) (hd:∀ (i:Nat) o,ops[i]? = some o → b_D o = true):∀ (fuel:Nat) (listed:Array Bool) (a:Act) (w:World),wpAny P md ops Q fuel listed a w → wpAnyIn (Fr r) 0 P md ops Q fuel listed a w
  | 0,listed,a,w,h=>h
  | fuel + 1,listed,a,w,h=>by
    refine ⟨h.1,fun i hi=>?_⟩
    have h2:=h.2 i hi
    unfold wpOp at h2
    unfold wpOpIn
    cases ho:ops[i]? with
    | none=>rw [ho] at h2;exact wpAny_in hQ hd fuel _ a w h2
    | some o =>
      rw [ho] at h2
      simp only at h2 ⊢
      by_cases hw:Region.wanted o (yielded ops a.tmps) = true
      · rw [if_pos hw] at h2 ⊢
        rcases h2 with h2 | ⟨_,h3⟩
        · exact Oper.wpIn_mono (fun a w h=>wpAny_in hQ hd fuel _ a w h) (wpIn_of (hd i o ho) h2)
        · exact absurd h3 hQ
      · rw [if_neg hw] at h2 ⊢
        exact ⟨fun _ _=>trivial,wpAny_in hQ hd fuel _ _ w h2⟩
theorem drawn {id:Nat} {l:List Oper} (hm:P.follows .mixedOrders = true) (hd:l.all b_D = true) (h:e_d P l Q a w):CI r P (.region id l.toArray true) Q a w:=fun hQ =>
  wpIn_region_any hm (wpAny_in hQ (fun i o ho=>List.all_eq_true.1 hd o (List.mem_of_getElem? (i:=i) (by simpa using ho))) _ _ _ _ h)
theorem w_yield (S:StD ds N a l) (hg:gOk ops l o = some true) {x:Operand} {xs:Array Operand} {ts:Array TypeId} {l0:Nat} (ho:o.op = .call { callee:=.value x,args:=xs,argTypes:=ts }) (hx:ev l x = some (.func (.yield l0) #[] #[])) (hd:o.dst = some d) (hN:Nat.blt d N = true)
    {vs:List Value} (hv:evs l xs.toList = some vs) {R:Ending → World → Prop} (h:YieldAt Fence.wide 0 P l0 vs.toArray w R) (k:∀ e w',R e w' → ∃ v,e = .returned v ∧ ∀ a',StD ds N a' ((d,v) :: l) → LI r P ops Q rest a' w'):LI r P ops Q (o :: rest) a w:=by
  intro hQ
  have hvs:xs.map a.eval = vs.toArray:=by
    rw [← S.evs hv,← Array.toList_map,Array.toArray_toList]
  obtain ⟨fn,tmps,assign,body,hy,hR⟩:=h
  have hr:(execOp a.eval o).run P w = .ok (.round l0 fn tmps assign body) w:=by
    simp [execOp,ho,resolve,S.eval hx,Deferred.ofValue,invoke,hvs,hy]
  have hnd:b_D o = true:=by unfold b_D;rw [ho]
  unfold wpListIn
  rw [if_pos (gOk.wanted S hg)]
  refine ⟨fun _ _=>trivial,?_⟩
  rw [d_T hnd,hr]
  refine ⟨fun h=>by simp [Fr,Fence.wide] at h,RoundIn.mono (show RoundIn (Fr r) 0 P l0 fn tmps assign body w R from hR) fun e w' he=>?_⟩
  obtain ⟨v,rfl,hk⟩:=k e w' he
  simp only [hd]
  exact hk _ (S.put (by simpa [Nat.blt_eq] using hN) v) hQ
end R
end
end Go.Proofs.Ytmcpcdmonglkjaa
namespace Go.Proofs.Ytmcpcdmonglkjaa
open Go.RowKit
structure Ab (Bs:List (Option Nat)) (n0:Nat) (A B:World):Prop where
  os:B.os = A.os
  tape:B.tape = A.tape
  output:B.output = A.output
  size:A.heap.size ≤ B.heap.size
  low:∀ b,b < n0 → b < A.heap.size → some b ∉ Bs → B.heap[b]? = A.heap[b]?
  cells:∀ b o,some b ∉ Bs → A.heap[b]? = some o → o.isCells = true → B.heap[b]? = some o
  others:∀ b o,some b ∉ Bs → A.heap[b]? = some o → o.isCells = false → ∃ o',B.heap[b]? = some o' ∧ o'.isCells = false
structure Nc (d:Nat) (A B:World):Prop where
  os:B.os = A.os
  tape:B.tape = A.tape
  output:B.output = A.output
  size:B.heap.size = A.heap.size
  block:∀ k,k ≠ d → B.heap[k]? = A.heap[k]?
  was:∃ o,A.heap[d]? = some o ∧ o.isCells = false
  is:∃ o,B.heap[d]? = some o ∧ o.isCells = false
def Ox (o:Obj) (w:World) (b:Nat):Prop:=w.heap[b]? = some o ∧ True
structure Yst (n:Nat) (A:World) (LO:List (Option Nat)) (B:World) (LO':List (Option Nat)):Prop where
  os:B.os = A.os
  tape:B.tape = A.tape
  output:B.output = A.output
  size:A.heap.size ≤ B.heap.size
  keep:∀ b,b < A.heap.size → some b ∉ LO → B.heap[b]? = A.heap[b]?
  old:∀ b,b < A.heap.size → some b ∈ LO' → some b ∈ LO
  own:∀ b,some b ∈ LO' → n ≤ b ∧ b < B.heap.size
  dis:LO'.Pairwise fun x y=>x = .none ∨ x ≠ y
structure Rnd (A:World) (LO:List (Option Nat)) (w:World) (L:List (Option Nat)):Prop where
  os:w.os = A.os
  tape:w.tape = A.tape
  output:w.output = A.output
  size:A.heap.size ≤ w.heap.size
  keep:∀ b,b < A.heap.size → some b ∉ LO → w.heap[b]? = A.heap[b]?
  old:∀ b,b < A.heap.size → some b ∈ L → some b ∈ LO
theorem cell_nc {A B:World} {b:Nat} {o o':Obj} (h1:A.heap[b]? = some o) (ho:o.isCells = false) (h2:B.heap[b]? = some o') (ho':o'.isCells = false) (p:Addr) (hp:p.block = b):B.cell? p = A.cell? p:=by
  subst hp
  unfold World.cell?
  cases o <;> simp [Obj.isCells] at ho <;> cases o' <;> simp [Obj.isCells] at ho' <;> simp [h1,h2]
section
variable {w0 w w' A B:World} {L L' LO LO' Bs:List (Option Nat)} {K:Nat → Prop} {n n0 b d i:Nat} {t:GT} {v v':Value} {o:Option Nat}
theorem Ab.refl:Ab Bs n0 A A:=⟨rfl,rfl,rfl,Nat.le_refl _,fun _ _ _ _=>rfl,fun _ _ _ h _=>h,fun _ o _ h ho=>⟨o,h,ho⟩⟩
theorem Ab.trans {C:World} (h:Ab Bs n0 A B) (k:Ab Bs n0 B C):Ab Bs n0 A C :=
  ⟨k.os.trans h.os,k.tape.trans h.tape,k.output.trans h.output,Nat.le_trans h.size k.size,fun b h1 h2 h3=>(k.low b h1 (Nat.lt_of_lt_of_le h2 h.size) h3).trans (h.low b h1 h2 h3),
   fun b o h1 h2 h3=>k.cells b o h1 (h.cells b o h1 h2 h3) h3,fun b o h1 h2 h3=>let ⟨o',e1,e2⟩:=h.others b o h1 h2 h3;k.others b o' h1 e1 e2⟩
theorem Ab.below (hb:Below A.heap.size A B):Ab Bs n0 A B :=
  have h:∀ b o,A.heap[b]? = some o → B.heap[b]? = some o:=fun b o e=>(hb.block b (Array.getElem?_eq_some_iff.1 e).1).trans e
  ⟨hb.os,hb.tape,hb.output,hb.size,fun b _ h _=>hb.block b h,fun b o _ e _=>h b o e,fun b o _ e e'=>⟨o,h b o e,e'⟩⟩
theorem Ab.wrote (hw:Wrote b A B) (hb:some b ∈ Bs):Ab Bs n0 A B :=
  have h:∀ k,some k ∉ Bs → B.heap[k]? = A.heap[k]?:=fun k hk=>hw.block k fun e=>hk (e ▸ hb)
  ⟨hw.os,hw.tape,hw.output,Nat.le_of_eq hw.size.symm,fun k _ _ hk=>h k hk,fun k o hk e _=>(h k hk).trans e,fun k o hk e e'=>⟨o,(h k hk).trans e,e'⟩⟩
theorem Ab.nc (hn:Nc d A B) (hd:n0 ≤ d):Ab Bs n0 A B :=
  ⟨hn.os,hn.tape,hn.output,Nat.le_of_eq hn.size.symm,fun k h _ _=>hn.block k (by omega),fun k o _ e e'=>(hn.block k fun e2=>by
      obtain ⟨q,h1,h2⟩:=hn.was
      rw [e2,h1] at e
      rw [← Option.some.inj e,h2] at e'
      cases e').trans e,fun k o _ e e'=>by
    by_cases hk:k = d
    · subst hk;exact hn.is
    · exact ⟨o,(hn.block k hk).trans e,e'⟩⟩
theorem Ab.keeps (h:Ab Bs n0 A B) {K':Nat → Prop} (hK:∀ b,K' b → some b ∉ Bs):Keeps K' A B :=
  ⟨h.size,fun p hp hk=>by
    obtain ⟨o,ho⟩:∃ o,A.heap[p.block]? = some o:=⟨_,Array.getElem?_eq_getElem hp⟩
    cases hc:o.isCells with
    | true=>exact World.cell?_of_block ((h.cells _ o (hK _ hk) ho hc).trans ho.symm)
    | false =>
      obtain ⟨o',h1,h2⟩:=h.others _ o (hK _ hk) ho hc
      exact cell_nc ho hc h1 h2 p rfl⟩
theorem Ab.kx (h:Ab Bs n0 A B) (hs:∀ x ∈ Bs,x ∈ L):Keeps (Kx K n L) A B:=h.keeps fun b hk hm=>hk.2 (hs _ hm)
theorem RepV.ab {u:Value} {x:PT t} (h:RepV t A (Kx K n L) u x) (hab:Ab Bs n0 A B) (hs:∀ x ∈ Bs,x ∈ L):RepV t B (Kx K n L) u x:=h.keep (hab.kx hs) fun _ _ h=>h
theorem Bx.ab {T:TypeId} {x:PT t} (h:Bx t T A (Kx K n L) b x) (hab:Ab Bs n0 A B) (hs:∀ x ∈ Bs,x ∈ L) (hb:some b ∉ Bs):Bx t T B (Kx K n L) b x:=by
  obtain ⟨cs,h1,h2⟩:=h
  exact ⟨cs,hab.cells b _ hb h1 rfl,h2.keep (hab.kx hs) fun _ _ h=>h⟩
theorem b_B {e:TypeId} {stride k:Nat} {cs:List Value} (h:A.ownsRow n e stride v k cs) (hb:∀ g o,v.ownBlock = some g → A.heap[g]? = some o → o.isCells = true → B.heap[g]? = some o):B.ownsRow n e stride v k cs:=by
  rcases h with ⟨h1,h2 | ⟨g,cap,cur,e1,e2,e3,e4⟩⟩
  · exact ⟨h1,.inl h2⟩
  · exact ⟨h1,.inr ⟨g,cap,cur,e1,e2,hb g _ (by rw [e1];rfl) e3 rfl,e4⟩⟩
theorem Ow.ab {e:GT} {E:TypeId} {xs:List (PT e)} {c:Option Nat} {m:Nat} (h:Ow e E A m (Kx K n L) v xs c) (hab:Ab Bs n0 A B) (hs:∀ x ∈ Bs,x ∈ L) (hb:v.ownBlock = .none ∨ v.ownBlock ∉ Bs):Ow e E B m (Kx K n L) v xs c:=by
  obtain ⟨cs,h1,h2,h3⟩:=h
  exact ⟨cs,b_B h1 fun g o e h4 h5=>hab.cells g o (fun hm=>by
    rcases hb with hb | hb
    · rw [hb] at e;cases e
    · exact hb (e ▸ hm)) h4 h5,h2.keep (hab.kx hs) fun _ _ h=>h,h3⟩
theorem Wd.ab (h:Wd w0 A L) (hab:Ab Bs n0 A B) (hs:∀ x ∈ Bs,x ∈ L) (hn:w0.heap.size ≤ n0):Wd w0 B L :=
  ⟨h.below.trans ⟨hab.os,hab.tape,hab.output,hab.size,fun k hk=>hab.low k (by omega) (by have:=h.below.size;omega) fun hm=>by have:=(h.own k (hs _ hm)).1;omega⟩,
   fun c hc=>⟨(h.own c hc).1,by have:=(h.own c hc).2;have:=hab.size;omega⟩,h.dis⟩
theorem Ox.ab {q:Obj} (h:Ox q A b) (hab:Ab Bs n0 A B) (hb:b < n0) (hn:some b ∉ Bs):Ox q B b:=⟨(hab.low b hb (Array.getElem?_eq_some_iff.1 h.1).1 hn).trans h.1,h.2⟩
theorem Ox.lt {q:Obj} (h:Ox q A b):b < A.heap.size:=(Array.getElem?_eq_some_iff.1 h.1).1
theorem Nc.keeps (h:Nc d A B) {K':Nat → Prop}:Keeps K' A B:=(Ab.nc (Bs:=[]) (n0:=0) h (Nat.zero_le _)).keeps fun _ _ hm=>by cases hm
theorem RepV.nc {u:Value} {x:PT t} (h:RepV t A K u x) (hn:Nc d A B):RepV t B K u x:=h.keep hn.keeps fun _ _ h=>h
theorem Bx.nc {T:TypeId} {x:PT t} (h:Bx t T A K b x) (hn:Nc d A B):Bx t T B K b x:=by
  obtain ⟨cs,h1,h2⟩:=h
  exact ⟨cs,(Ab.nc (Bs:=[]) (n0:=0) hn (Nat.zero_le _)).cells b _ (by simp) h1 rfl,h2.keep hn.keeps fun _ _ h=>h⟩
theorem Ow.nc {e:GT} {E:TypeId} {xs:List (PT e)} {c:Option Nat} {m:Nat} (h:Ow e E A m K v xs c) (hn:Nc d A B):Ow e E B m K v xs c:=by
  obtain ⟨cs,h1,h2,h3⟩:=h
  exact ⟨cs,b_B h1 fun g o e h4 h5=>(Ab.nc (Bs:=[]) (n0:=0) hn (Nat.zero_le _)).cells g o (by simp) h4 h5,h2.keep hn.keeps fun _ _ h=>h,h3⟩
theorem Wd.nc (h:Wd w0 A L) (hn:Nc d A B) (hd:some d ∈ L):Wd w0 B L:=Wd.ab (Bs:=[]) (n0:=w0.heap.size) h (Ab.nc hn (h.own d hd).1) (by simp) (Nat.le_refl _)
theorem Ox.nc {q:Obj} (h:Ox q A b) (hn:Nc d A B) (hb:b ≠ d):Ox q B b:=⟨(hn.block b hb).trans h.1,h.2⟩
theorem Nc.put {o o':Obj} (h:A.heap[d]? = some o) (ho:o.isCells = false) (ho':o'.isCells = false):Nc d A (A.putObj d o') :=
  ⟨rfl,rfl,rfl,by simp [World.putObj],fun k hk=>World.putObj_heap_other hk,⟨o,h,ho⟩,⟨o',World.putObj_heap_same (Array.getElem?_eq_some_iff.1 h).1,ho'⟩⟩
theorem Ox.step {q:Obj} (h:Ox q w b) (hb:Below w.heap.size w w'):Ox q w' b:=⟨(hb.block b h.lt).trans h.1,h.2⟩
theorem Ox.box {q:Obj} (h:Ox q w b) (hb:NewB w w' i):Ox q w' b:=h.step hb.below
theorem Ox.newO {q:Obj} (h:Ox q w b) (hN:NewO w w' o):Ox q w' b:=h.step hN.below
theorem Ox.wrote {q:Obj} (h:Ox q w b) (hw:Wrote i w w') (hm:True) (hne:b ≠ i):Ox q w' b:=⟨(hw.block b hne).trans h.1,h.2⟩
theorem Ox.apd {q:Obj} (h:Ox q w b) (W:Wd w0 w L) (ha:Apd w w' v v') (hi:L[i]? = some v.ownBlock) {j:Nat} (hj:L[j]? = some (some b)) (hji:j ≠ i):Ox q w' b :=
  ⟨(ha.grown.block b h.lt fun e=>by
    rcases W.neq hji hj hi with e2 | e2
    · cases e2
    · exact e2 e).trans h.1,h.2⟩
theorem Ox.more {q:Obj} (h:Ox q w b):Ox q w b:=h
theorem Ox.lessAt {q:Obj} (h:Ox q w b) (i:Nat):Ox q w b:=h
theorem Ox.drop {q:Obj} (h:Ox q w b) (i:Nat):Ox q w b:=h
theorem Ox.mk_ {q:Obj} {m:Nat} (h:Ox q w b) (hm:Mk m L w w') (hb:some b ∈ L):Ox q w' b:=⟨(hm.old b h.lt (.inr hb)).trans h.1,h.2⟩
theorem Rnd.start (A:World) (L:List (Option Nat)):Rnd A L A L:=⟨rfl,rfl,rfl,Nat.le_refl _,fun _ _ _=>rfl,fun _ _ h=>h⟩
theorem Rnd.step (h:Rnd A LO w L) (hb:Below w.heap.size w w'):Rnd A LO w' L :=
  ⟨hb.os.trans h.os,hb.tape.trans h.tape,hb.output.trans h.output,Nat.le_trans h.size hb.size,fun b hl hm=>(hb.block b (Nat.lt_of_lt_of_le hl h.size)).trans (h.keep b hl hm),h.old⟩
theorem Rnd.newO (h:Rnd A LO w L) (hN:NewO w w' o):Rnd A LO w' (o :: L) :=
  have h1:=h.step hN.below
  ⟨h1.os,h1.tape,h1.output,h1.size,h1.keep,fun b hl hm=>by
    rcases List.mem_cons.1 hm with e | hm
    · have:=hN.ge b e.symm;have:=h.size;omega
    · exact h.old b hl hm⟩
theorem Rnd.box (h:Rnd A LO w L) (hb:NewB w w' b):Rnd A LO w' (some b :: L):=h.newO (NewB.newO hb)
theorem Rnd.wrote (h:Rnd A LO w L) (hw:Wrote b w w') (hb:some b ∈ L):Rnd A LO w' L :=
  ⟨hw.os.trans h.os,hw.tape.trans h.tape,hw.output.trans h.output,by rw [hw.size];exact h.size,fun k hl hm=>(hw.block k fun e=>hm (h.old k hl (e ▸ hb))).trans (h.keep k hl hm),h.old⟩
theorem Rnd.nc (h:Rnd A LO w L) (hw:Nc b w w') (hb:some b ∈ L):Rnd A LO w' L :=
  ⟨hw.os.trans h.os,hw.tape.trans h.tape,hw.output.trans h.output,by rw [hw.size];exact h.size,fun k hl hm=>(hw.block k fun e=>hm (h.old k hl (e ▸ hb))).trans (h.keep k hl hm),h.old⟩
theorem Rnd.apd (h:Rnd A LO w L) (ha:Apd w w' v v') (hi:L[i]? = some v.ownBlock):Rnd A LO w' (L.set i v'.ownBlock) :=
  have hm:=List.mem_of_getElem? hi
  ⟨ha.grown.os.trans h.os,ha.grown.tape.trans h.tape,ha.grown.output.trans h.output,Nat.le_trans h.size ha.grown.size,fun b hl hb=>(ha.grown.block b (Nat.lt_of_lt_of_le hl h.size) fun e=>hb (h.old b hl (by rw [e];exact hm))).trans (h.keep b hl hb),
   fun b hl hb=>by
    rcases List.mem_or_eq_of_mem_set hb with hb | e
    · exact h.old b hl hb
    · rcases ha.at_ with e2 | e2
      · exact h.old b hl (by rw [e,e2];exact hm)
      · rw [e2] at e;have:=Option.some.inj e;have:=h.size;omega⟩
theorem Rnd.more (h:Rnd A LO w L):Rnd A LO w (.none :: L):=⟨h.os,h.tape,h.output,h.size,h.keep,fun b hl hm=>by
  rcases List.mem_cons.1 hm with e | hm
  · cases e
  · exact h.old b hl hm⟩
theorem Rnd.less (h:Rnd A LO w L) (hs:L'.Sublist L):Rnd A LO w L':=⟨h.os,h.tape,h.output,h.size,h.keep,fun b hl hm=>h.old b hl (hs.subset hm)⟩
theorem Rnd.lessAt (h:Rnd A LO w L) (i:Nat):Rnd A LO w (L.eraseIdx i):=h.less (List.eraseIdx_sublist _ _)
theorem Rnd.drop (h:Rnd A LO w L) (i:Nat):Rnd A LO w (L.drop i):=h.less (List.drop_sublist _ _)
theorem Rnd.lm0 {I:List Nat} (h:Rnd A LO w L):Rnd A LO w (lm I L fun _=>none):=⟨h.os,h.tape,h.output,h.size,h.keep,fun b hl hm=>h.old b hl (c_O hm)⟩
theorem Rnd.sto {T:TypeId} {g:Nat} {xn:PT t} {K':Nat → Prop} (h:Rnd A LO w L) (hs:Sto t T K' g xn w w') (hg:some g ∈ L):Rnd A LO w' L :=
  ⟨hs.os.trans h.os,hs.tape.trans h.tape,hs.output.trans h.output,Nat.le_trans h.size hs.size,fun k hl hm=>(hs.block k (Nat.lt_of_lt_of_le hl h.size) fun e=>hm (h.old k hl (e ▸ hg))).trans (h.keep k hl hm),h.old⟩
theorem Ox.sto {q:Obj} {T:TypeId} {g:Nat} {xn:PT t} {K':Nat → Prop} (h:Ox q w b) (hs:Sto t T K' g xn w w') (hne:b ≠ g):Ox q w' b:=⟨(hs.block b h.lt hne).trans h.1,h.2⟩
theorem Rnd.yst (h:Rnd A LO w L) (W:Wd w0 w L):Yst w0.heap.size A LO w L:=⟨h.os,h.tape,h.output,h.size,h.keep,h.old,W.own,W.dis⟩
theorem Yst.kk (hy:Yst n A LO B LO') {c:Nat} (hc:c < A.heap.size) (hk:Kx K n0 (Bs ++ LO) c):Kx K n0 (Bs ++ LO') c :=
  ⟨hk.1,fun hm=>hk.2 (by
    rcases List.mem_append.1 hm with hm | hm
    · exact List.mem_append.2 (.inl hm)
    · exact List.mem_append.2 (.inr (hy.old c hc hm)))⟩
theorem Yst.keeps (hy:Yst n A LO B LO'):Keeps (Kx K n0 (Bs ++ LO)) A B:=⟨hy.size,fun p hp hk=>World.cell?_of_block (hy.keep _ hp fun hm=>hk.2 (List.mem_append.2 (.inr hm)))⟩
theorem RepV.yst {u:Value} {x:PT t} (Bs:List (Option Nat)) (h:RepV t A (Kx K n0 (Bs ++ LO)) u x) (hy:Yst n A LO B LO'):RepV t B (Kx K n0 (Bs ++ LO')) u x:=h.keep hy.keeps fun c hc hk=>hy.kk hc hk
theorem Wd.yst (Bs:List (Option Nat)) (h:Wd w0 A (Bs ++ LO)) (hy:Yst w0.heap.size A LO B LO'):Wd w0 B (Bs ++ LO'):=by
  have hd:=List.pairwise_append.1 h.dis
  refine ⟨h.below.trans ⟨hy.os,hy.tape,hy.output,hy.size,fun k hk=>hy.keep k (by have:=h.below.size;omega) fun hm=>by have:=(h.own k (List.mem_append.2 (.inr hm))).1;omega⟩,fun c hc=>?_,List.pairwise_append.2 ⟨hd.1,hy.dis,fun x hx y hz=>?_⟩⟩
  · rcases List.mem_append.1 hc with hc | hc
    · have:=h.own c (List.mem_append.2 (.inl hc));have:=hy.size;omega
    · exact hy.own c hc
  · cases x with
    | none=>exact .inl rfl
    | some c =>
      refine .inr fun e=>?_
      subst e
      have hc:=(h.own c (List.mem_append.2 (.inl hx))).2
      rcases hd.2.2 _ hx _ (hy.old c hc hz) with e | e
      · cases e
      · exact e rfl
theorem Bx.yst {T:TypeId} {x:PT t} (Bs:List (Option Nat)) (h:Bx t T A (Kx K n0 (Bs ++ LO)) b x) (hy:Yst n A LO B LO') (W:Wd w0 A (Bs ++ LO)) (hb:some b ∈ Bs):Bx t T B (Kx K n0 (Bs ++ LO')) b x:=by
  have hl:=h.lt
  obtain ⟨cs,h1,h2⟩:=h
  refine ⟨cs,(hy.keep b hl fun hm=>?_).trans h1,h2.keep hy.keeps fun c hc hk=>hy.kk hc hk⟩
  rcases (List.pairwise_append.1 W.dis).2.2 _ hb _ hm with e | e
  · cases e
  · exact e rfl
theorem Ox.yst {q:Obj} (Bs:List (Option Nat)) (h:Ox q A b) (hy:Yst n A LO B LO') (W:Wd w0 A (Bs ++ LO)) (hb:some b ∈ Bs):Ox q B b:=by
  refine ⟨(hy.keep b h.lt fun hm=>?_).trans h.1,h.2⟩
  rcases (List.pairwise_append.1 W.dis).2.2 _ hb _ hm with e | e
  · cases e
  · exact e rfl
structure JI {β:Type} (Inv:β → List (Option Nat) → World → Prop) (Bs:List (Option Nat)) (n0:Nat) (LO:List (Option Nat)) (A:World) (b:β):Prop where
  ab:∀ b LO A B,Inv b LO A → Ab Bs n0 A B → Inv b LO B
  inv:Inv b LO A
  hn:n0 ≤ A.heap.size
variable {β:Type} {Inv:β → List (Option Nat) → World → Prop} {s:β}
theorem JI.step (h:JI Inv Bs n0 LO A s) (hb:Below A.heap.size A B):JI Inv Bs n0 LO B s:=⟨h.ab,h.ab _ _ _ _ h.inv (Ab.below hb),Nat.le_trans h.hn hb.size⟩
theorem JI.box (h:JI Inv Bs n0 LO A s) (hb:NewB A B b):JI Inv Bs n0 LO B s:=h.step hb.below
theorem JI.newO (h:JI Inv Bs n0 LO A s) (hb:NewO A B o):JI Inv Bs n0 LO B s:=h.step hb.below
theorem JI.wrote (h:JI Inv Bs n0 LO A s) (hw:Wrote b A B) (hb:some b ∈ Bs):JI Inv Bs n0 LO B s:=⟨h.ab,h.ab _ _ _ _ h.inv (Ab.wrote hw hb),by rw [hw.size];exact h.hn⟩
theorem JI.nc (h:JI Inv Bs n0 LO A s) (hw:Nc d A B) (hd:n0 ≤ d):JI Inv Bs n0 LO B s:=⟨h.ab,h.ab _ _ _ _ h.inv (Ab.nc hw hd),by rw [hw.size];exact h.hn⟩
end
def Lr (D:Nat) (fn:FuncId) (tmps:Array Value) (ps:Array Tmp) (assign body:Code) (st:LoopState) (pe:Option Code):Obj:=.loop { state:=st,pending:=pe,fn,tmps,params:=ps,assign,body,defers:=D }
theorem Lr.nc {D fn tmps ps assign body st pe}:(Lr D fn tmps ps assign body st pe).isCells = false:=rfl
def rk (rec:LoopState → Option Code → Obj) (js:List Code):Nat → Obj
  | 0=>rec .ready none
  | k + 1=>rec .done js[k]?
def c_P (D:Nat):Deferred:={ target:=.collected D,args:=#[] }
section
variable {r:Option Nat} {ds:List Deferred} {N:Nat} {a:Act} {sl:List (Nat × Value)} {w w0:World} {P:Program} {Q:Exit → Act → World → Prop}
def RP (P:Program) (l:Nat) (Q:Exit → Act → World → Prop) (a':Act) (w:World):Prop :=
  ∃ jump w4,(Instr.endLoop l).run P w = .ok jump w4 ∧ (match jump with | none=>Q .normal a' w4 | some c=>CI none P c Q a' w4)
theorem RP.done {rec:LoopState → Option Code → Obj} {l D fn tmps ps assign body} (hr:rec = Lr D fn tmps ps assign body) (h:Ox (rec .ready none) w l) (k:∀ w4,Nc l w w4 → Q .normal a w4):RP P l Q a w:=by
  subst hr
  exact ⟨none,_,run_endLoop h.1 (by simp),k _ (Nc.put h.1 rfl rfl)⟩
theorem RP.jump {rec:LoopState → Option Code → Obj} {l D fn tmps ps assign body c} (hr:rec = Lr D fn tmps ps assign body) (h:Ox (rec .done (some c)) w l) (k:∀ w4,Nc l w w4 → CI none P c Q a w4):RP P l Q a w:=by
  subst hr
  exact ⟨some c,_,run_endLoop h.1 (by simp),k _ (Nc.put h.1 rfl rfl)⟩
theorem R.range (S:StD ds N a sl) {g:Operand} {ps:Array Tmp} {assign body:Code} {gf:FuncId} {lb:Array Value} (hg:ev sl g = some (.func (.func gf) #[] lb)) (hcb:a_F P gf = true)
    (h:∀ fn w1 w2 D l rec,rec = Lr D fn a.tmps ps assign body → NewB w w1 D → NewB w1 w2 l → Ox (.deferred (some [])) w1 D → Ox (rec .ready none) w2 l →
      Calls P gf (#[.func (.yield l) #[] #[]] ++ lb) w2 fun e w3=>(∃ v,e = .returned v) ∧ RP P l Q { a with defers:=c_P D :: a.defers } w3):CI none P (.rangeFunc g ps assign body) Q a w:=by
  intro hQ
  refine wpIn_rangeFunc fun fn _=>?_
  have n1:NewB w (w.alloc (.deferred (some []))) w.heap.size:=⟨(Below.refl _ w).alloc (Nat.le_refl _) _,Nat.le_refl _,by simp⟩
  have hl:=World.alloc_heap_new (w.alloc (.deferred (some []))) (Lr w.heap.size fn a.tmps ps assign body .ready none)
  rw [World.size_alloc] at hl
  have n2:NewB (w.alloc (.deferred (some []))) ((w.alloc (.deferred (some []))).alloc (Lr w.heap.size fn a.tmps ps assign body .ready none)) (w.heap.size + 1):=⟨(Below.refl _ _).alloc (Nat.le_refl _) _,by simp,by simp⟩
  have hD:Ox (.deferred (some [])) (w.alloc (.deferred (some []))) w.heap.size:=⟨World.alloc_heap_new w _,trivial⟩
  refine ⟨w.heap.size + 1,[c_P w.heap.size],_,{ target:=.fn (.func gf) lb,args:=#[.func (.yield (w.heap.size + 1)) #[] #[]] },(w.alloc (.deferred (some []))).alloc (Lr w.heap.size fn a.tmps ps assign body .ready none),gf,#[.func (.yield (w.heap.size + 1)) #[] #[]] ++ lb,(w.alloc (.deferred (some []))).alloc (Lr w.heap.size fn a.tmps ps assign body .ready none),run_enterLoop_outer fn a.tmps ps assign body,?_,fun _ _=>trivial,?_,fun h=>by simp [Fr,Fence.wide] at h,?_⟩
  · have:a.eval g = .func (.func gf) #[] lb:=S.eval hg
    simp only [resolve,this]
    simp [go_sem]
    rfl
  · simp [invoke,b_T hcb]
  · refine c_3 ((h fn _ _ _ _ _ rfl n1 n2 hD ⟨hl,trivial⟩).mono ?_)
    rintro _ w3 ⟨⟨v,rfl⟩,jump,w4,he,hj⟩
    refine ⟨jump,w4,he,?_⟩
    cases jump with
    | none=>exact hj
    | some c=>exact hj hQ
def psL:List Nat → List Value → List (Nat × Value) → List (Nat × Value)
  | p :: ps,v :: vs,l=>psL ps vs ((p,v) :: l)
  | _,_,l=>l
theorem St.round:∀ (ps:List Nat) (vs:List Value) {T:Array Value} {sl:List (Nat × Value)},(∀ p ∈ ps,p < N) → StD [] N { tmps:=T,defers:=[] } sl → St N { tmps:=(ps.zip vs).foldl (fun t p=>t.setIfInBounds p.1 p.2) T,defers:=[] } (psL ps vs sl)
  | [],_,_,_,_,S=>S
  | _ :: _,[],_,_,_,S=>S
  | p :: ps,v :: vs,T,sl,hp,S=>St.round ps vs (fun q hq=>hp q (List.mem_cons_of_mem _ hq)) (S.put (hp p (List.mem_cons_self ..)) v)
theorem StD.mark {D:Nat} (S:StD ds N a sl):StD (c_P D :: ds) N { a with defers:=c_P D :: a.defers } sl:=⟨S.size,by simp [S.defers],S.at_⟩
theorem StD.plain (S:StD ds N a sl):StD [] N { tmps:=a.tmps,defers:=[] } sl:=⟨S.size,rfl,S.at_⟩
def BG (P:Program) (l:Nat) (body:Code) (R:Ending → World → Prop) (a:Act) (w:World):Prop:=∃ w2,(Instr.beginRound l).run P w = .ok () w2 ∧ CI (some l) P body (roundPost P l R) a w2
theorem R.begin {rec:LoopState → Option Code → Obj} {l D fn tmps ps assign body b} {R:Ending → World → Prop} (hr:rec = Lr D fn tmps ps assign b) (h:Ox (rec .ready none) w l) (k:∀ w2,Nc l w w2 → Ox (rec .busy none) w2 l → CI (some l) P body (roundPost P l R) a w2):BG P l body R a w:=by
  subst hr
  exact ⟨_,run_beginRound h.1 rfl,k _ (Nc.put h.1 rfl rfl) ⟨World.putObj_heap_same (Array.getElem?_eq_some_iff.1 h.1).1,trivial⟩⟩
theorem d_7 {rec:LoopState → Option Code → Obj} {l D fn assign body} {ps:List Nat} {vs:List Value} {R:Ending → World → Prop} (hr:rec = Lr D fn a.tmps ps.toArray assign body) (S:StD ds N a sl) (h:Ox (rec .ready none) w l) (hs:vs.length = ps.length) (hp:ps.all (Nat.blt · N) = true)
    (k:∀ a',St N a' (psL ps vs sl) → CI (some l) P assign (Exit.then (BG P l body R) (fun _ _ _=>False)) a' w):YieldAt Fence.wide 0 P l vs.toArray w R:=by
  subst hr
  have hy:=run_yield (P:=P) (args:=vs.toArray) h.1 (by simpa using hs)
  refine ⟨fn,_,assign,body,hy,roundIn_of_wpIn trivial ?_⟩
  have S1:=St.round ps vs (fun p hm=>by simpa [Nat.blt_eq] using List.all_eq_true.1 hp p hm) S.plain
  have e:((ps.toArray.zip vs.toArray).foldl (fun tmps (x:Tmp × Value)=>tmps.setIfInBounds x.1 x.2) a.tmps) = (ps.zip vs).foldl (fun t p=>t.setIfInBounds p.1 p.2) a.tmps:=by simp
  have:=k _ S1 (fun ⟨_,_,h⟩=>h)
  refine wpIn_mono (c:=assign) (F:=Fence.wide.inRound l) (show assign.wpIn (Fence.wide.inRound l) 0 P _ _ w from by rw [← e] at this;exact this) fun e a' w' he=>?_
  cases e with
  | normal=>obtain ⟨w2,h1,h2⟩:=he;exact ⟨w2,h1,h2 (fun ⟨_,_,h⟩=>h)⟩
  | _=>exact he
theorem R.end_n {rec:LoopState → Option Code → Obj} {l D fn tmps ps assign b} {R:Ending → World → Prop} (hr:rec = Lr D fn tmps ps assign b) (h:Ox (rec .busy none) w l) (k:∀ w2,Nc l w w2 → Ox (rec .ready none) w2 l → R (.returned (.bool true)) w2):roundPost P l R .normal a w:=by
  subst hr
  exact ⟨_,_,run_endRound none h.1,k _ (Nc.put h.1 rfl rfl) ⟨World.putObj_heap_same (Array.getElem?_eq_some_iff.1 h.1).1,trivial⟩⟩
theorem R.enter {f:FuncId} {fn:Func} {c:Code} {args:List Value} {R:Ending → World → Prop} (hf:P.funcs[f]? = some fn) (hb:fn.body = some c) (N:Nat) (hN:fn.ntmps = N) (hl:Nat.ble args.length N = true) (hR:∀ w,¬ R .outgrown w)
    (h:∀ a,St N a (b_1 0 args) → CI none P c (bodyPostM (Fr none) 0 P fn R) a w):Calls P f args.toArray w R:=by
  refine (callsIn_wide (n:=0)).1 (callsIn_of_wp_marks (F:=Fence.wide) hf hb trivial ?_)
  rw [hN]
  exact h _ (StD.enter args N (by simpa [Nat.ble_eq] using hl)) fun ⟨_,w,h⟩=>hR w h
theorem R.leave0 (S:StD [] N a sl) {fn:Func} {R:Ending → World → Prop} (h:∀ a',St N a' sl → bodyPost P fn R .ret a' w) {e:Exit} (he:e = .ret ∨ e = .normal):bodyPostM (Fr none) 0 P fn R e a w:=by
  have:=h a S
  obtain ⟨_,v,h1,h2⟩:=this
  rcases he with rfl | rfl <;> (show LeavesInM _ _ _ _ _ _ a.defers _ _;rw [S.defers];exact ⟨v,h1,h2⟩)
theorem R.leave1 {D:Nat} (S:StD [c_P D] N a sl) {fn:Func} {R:Ending → World → Prop} (hD:Ox (.deferred (some [])) w D) (h:∀ a' w',Nc D w w' → St N a' sl → bodyPost P fn R .ret a' w') {e:Exit} (he:e = .ret ∨ e = .normal):bodyPostM (Fr none) 0 P fn R e a w:=by
  obtain ⟨_,v,h1,h2⟩:=h { tmps:=a.tmps,defers:=[] } _ (Nc.put (o':=.deferred none) hD.1 rfl rfl) S.plain
  rcases he with rfl | rfl <;> (show LeavesInM _ _ _ _ _ _ a.defers _ _;rw [S.defers];exact ⟨by simp,.inl ⟨D,_,rfl,run_takeDeferred hD.1,v,h1,h2⟩⟩)
def rnd {σ α:Type} (body:σ → α → Option (Nat × σ)):Nat × σ → α → Option (Bool × (Nat × σ))
  | (0,s),x=>(body s x).map fun r=>(Nat.beq r.1 0,r)
  | _,_=>none
theorem rnd_some {σ α:Type} {body:σ → α → Option (Nat × σ)} {s:Nat × σ} {x:α} {r:Bool × (Nat × σ)} (h:rnd body s x = some r):∃ s0 r0,s = (0,s0) ∧ body s0 x = some r0 ∧ r = (Nat.beq r0.1 0,r0):=by
  unfold rnd at h
  split at h
  · cases hb:body _ _ with
    | none=>rw [hb] at h;cases h
    | some r0=>rw [hb] at h;exact ⟨_,r0,rfl,hb,(Option.some.inj h).symm⟩
  · cases h
end
end Go.Proofs.Ytmcpcdmonglkjaa
namespace Go.Proofs.Ytmcpcdmonglkjaa
open Go.RowKit
def Pr (t:GT) (w:World) (K:Nat → Prop) (p:Addr) (x:PT t):Prop:=RepAt t w K p x ∧ p.block < w.heap.size ∧ K p.block
section
variable {w0 w w' A B:World} {L L' LO LO' Bs:List (Option Nat)} {K K':Nat → Prop} {n n0 b d i:Nat} {t:GT} {v v':Value} {o:Option Nat} {p:Addr} {x:PT t}
theorem Pr.keep (h:Pr t w K p x) (hk:Keeps K w w') (hK:∀ b,b < w.heap.size → K b → K' b):Pr t w' K' p x :=
  ⟨h.1.keep hk hK fun i _=>hk.2 ⟨p.block,p.off + i,.none⟩ h.2.1 h.2.2,Nat.lt_of_lt_of_le h.2.1 hk.1,hK _ h.2.1 h.2.2⟩
theorem Pr.step (h:Pr t w K p x) (hb:Below w.heap.size w w'):Pr t w' K p x:=h.keep (Keeps.below hb) fun _ _ h=>h
theorem Pr.newO (h:Pr t w (Kx K n L) p x) (hN:NewO w w' o):Pr t w' (Kx K n (o :: L)) p x:=h.keep (Keeps.below hN.below) fun c hc hk=>Kx.newO hN hc hk
theorem Pr.box (h:Pr t w (Kx K n L) p x) (hb:NewB w w' b):Pr t w' (Kx K n (some b :: L)) p x:=h.newO (NewB.newO hb)
theorem Pr.wrote (h:Pr t w (Kx K n L) p x) (hw:Wrote b w w') (hb:some b ∈ L):Pr t w' (Kx K n L) p x:=h.keep (Keeps.wrote hw hb) fun _ _ h=>h
theorem Pr.apd (h:Pr t w (Kx K n L) p x) (ha:Apd w w' v v') (hi:L[i]? = some v.ownBlock):Pr t w' (Kx K n (L.set i v'.ownBlock)) p x:=h.keep (ha.keeps hi) (ha.kk hi)
theorem Pr.more (h:Pr t w (Kx K n L) p x):Pr t w (Kx K n (.none :: L)) p x:=h.keep (Keeps.refl _ _) fun _ _ hk=>hk.more
theorem Pr.less (h:Pr t w (Kx K n L) p x) (hs:L'.Sublist L):Pr t w (Kx K n L') p x:=h.keep (Keeps.refl _ _) fun c _ hk=>⟨hk.1,fun hm=>hk.2 (hs.subset hm)⟩
theorem Pr.lessAt (h:Pr t w (Kx K n L) p x) (i:Nat):Pr t w (Kx K n (L.eraseIdx i)) p x:=h.less (List.eraseIdx_sublist _ _)
theorem Pr.drop (h:Pr t w (Kx K n L) p x) (i:Nat):Pr t w (Kx K n (L.drop i)) p x:=h.less (List.drop_sublist _ _)
theorem Pr.lessO (h:Pr t w (Kx K n L) p x) (i:Nat) (hi:L[i]? = some o):Pr t w (Kx K n [o]) p x:=h.less (List.singleton_sublist.2 (List.mem_of_getElem? hi))
theorem Bx.lessO {T:TypeId} (h:Bx t T w (Kx K n L) b x) (i:Nat) (hi:L[i]? = some o):Bx t T w (Kx K n [o]) b x:=h.less (List.singleton_sublist.2 (List.mem_of_getElem? hi))
theorem Pr.out (h:Pr t w (Kx K n L) p x):Pr t w (Kx K n []) p x:=h.less (List.nil_sublist _)
theorem Pr.mk_ {m:Nat} (h:Pr t w K p x) (hm:Mk m L w w'):Pr t w' K p x:=h.keep ⟨hm.size,fun p hp _=>hm.cells p hp⟩ fun _ _ h=>h
theorem Pr.lm0 {I:List Nat} (h:Pr t w (Kx K n L) p x):Pr t w (Kx K n (lm I L fun _=>none)) p x:=h.keep (Keeps.refl _ _) fun c _ hk=>⟨hk.1,fun hm=>hk.2 (c_O hm)⟩
theorem Pr.lv (h:Pr t w K p x) (hl:Lv K w w'):Pr t w' K p x:=h.keep hl.keep fun _ _ h=>h
theorem Pr.nc (h:Pr t w K p x) (hn:Nc d w w'):Pr t w' K p x:=h.keep hn.keeps fun _ _ h=>h
theorem Pr.ab (h:Pr t A (Kx K n L) p x) (hab:Ab Bs n0 A B) (hs:∀ x ∈ Bs,x ∈ L):Pr t B (Kx K n L) p x:=h.keep (hab.kx hs) fun _ _ h=>h
theorem Pr.yst (Bs:List (Option Nat)) (h:Pr t A (Kx K n0 (Bs ++ LO)) p x) (hy:Yst n A LO B LO'):Pr t B (Kx K n0 (Bs ++ LO')) p x:=h.keep hy.keeps fun c hc hk=>hy.kk hc hk
theorem Pr.back {w1:World} (h:Pr t w' (Kx (Kx K w1.heap.size L) w.heap.size []) p x) (hw:Wd w1 w L):Pr t w' (Kx K w1.heap.size L) p x:=h.keep (Keeps.refl _ _) fun c _ hk=>by
  rcases hk.1 with h1 | h1
  · exact h1
  · exact ⟨.inr (by have:=hw.below.size;omega),fun hm=>by have:=(hw.own c hm).2;omega⟩
theorem Pr.backO {w1:World} (h:Pr t w' (Kx (Kx K w1.heap.size L) w.heap.size [o]) p x) (hw:Wd w1 w L):Pr t w' (Kx K w1.heap.size (o :: L)) p x:=h.keep (Keeps.refl _ _) fun c _ hk=>Kx.backO hw hk
theorem Bx.backO {T:TypeId} {w1:World} (h:Bx t T w' (Kx (Kx K w1.heap.size L) w.heap.size [o]) b x) (hw:Wd w1 w L):Bx t T w' (Kx K w1.heap.size (o :: L)) b x:=by
  obtain ⟨cs,h1,h2⟩:=h
  exact ⟨cs,h1,h2.keep (Keeps.refl _ _) fun c _ hk=>Kx.backO hw hk⟩
theorem Bx.pr {T:TypeId} (h:Bx t T w (Kx K n L) b x) (W:Wd w0 w L) (hn:n = w0.heap.size) (i:Nat) (hi:L[i]? = some (some b)):Pr t w (Kx K n (L.eraseIdx i)) ⟨b,0,.none⟩ x:=by
  refine ⟨(h.lessAt i).at_,h.lt,.inr (by rw [hn];exact (W.own b (List.mem_of_getElem? hi)).1),fun hm=>?_⟩
  obtain ⟨j,hji,hj⟩:=b_w hm
  rcases W.neq hji hj hi with e | e
  · cases e
  · exact e rfl
theorem Br.pr (h:Br t w0 K p x) (W:Wd w0 w L) (hK:K p.block):Pr t w (Kx K w0.heap.size L) p x :=
  ⟨h.now W,by have:=W.below.size;have:=h.2;omega,.inl hK,fun hm=>by have:=(W.own _ hm).1;have:=h.2;omega⟩
theorem Pr.br (h:Pr t w K p x):Br t w K p x:=⟨h.1,h.2.1⟩
theorem Ab.mono {n1:Nat} (h:Ab Bs n1 A B) (hn:n0 ≤ n1):Ab Bs n0 A B:=⟨h.os,h.tape,h.output,h.size,fun b hb=>h.low b (by omega),h.cells,h.others⟩
end
section
variable {ds:List Deferred} {N:Nat} {a:Act} {l:List (Nat × Value)} {w w0:World} {P:Program} {ops:Array Oper} {Q:Exit → Act → World → Prop} {o:Oper} {Kont:Act → World → Prop} {d:Nat}
theorem d_U (S:St N a l) {fn:Func} {R:Ending → World → Prop} (hr:fn.results = #[]) (hR:∀ v,R (.returned v) w):bodyPost P fn R .ret a w :=
  ⟨S.defers,_,by simp [results,hr];rfl,hR _⟩
def funcB (P:Program) (T:TypeId):Bool:=match P.underlying T with | some (.func _ _ _)=>true | _=>false
theorem d_g (S:StD ds N a l) {T T':TypeId} {ad:Operand} {v:Value} {b:Nat} (ho:o.op = .load T ad) (ht:funcB P T = true) (hd:o.dst = some d) (hN:Nat.blt d N = true) (ha:ev l ad = some (.pointer (some ⟨b,0,.none⟩)))
    (hO:Ox (.cells #[v] T' (0,0)) w b) (k:∀ a',StD ds N a' ((d,v) :: l) → Kont a' w):o.wp P a w Kont Q:=by
  refine a_B S (v:=v) hd hN ?_ k
  have hc:w.cell? ⟨b,0,.none⟩ = some v:=by unfold World.cell?;rw [hO.1];rfl
  unfold funcB at ht
  split at ht
  · rename_i ps rs vv hu
    simp [execOp,ho,S.eval ha,Instr.loadAt,Instr.sureAddr,loadVar,isAgg,run_underlying hu,hc]
  · cases ht
end
end Go.Proofs.Ytmcpcdmonglkjaa
namespace Go.Proofs.Ytmcpcdmonglkjaa
open Go.RowKit
section
variable {ds:List Deferred} {N:Nat} {a:Act} {l:List (Nat × Value)} {w w0:World} {P:Program} {ops:Array Oper} {Q:Exit → Act → World → Prop} {rest:List Oper} {o:Oper} {Kont:Act → World → Prop} {d:Nat} {K:Nat → Prop} {n:Nat} {L:List (Option Nat)}
end
end Go.Proofs.Ytmcpcdmonglkjaa
namespace Go.Proofs.Ytmcpcdmonglkjaa
open Go.RowKit
def Lx (t s t' s':GT) (get:PT t → PT s) (set:PT s' → PT t → PT t'):Prop :=
  ∀ w K cs x,RepCs t w K cs x → ∃ c1 c c2,cs = c1 ++ c ++ c2 ∧ RepCs s w K c (get x) ∧ ∀ cn y,cn.length = c.length → RepCs s' w K cn y → RepCs t' w K (c1 ++ cn ++ c2) (set y x)
theorem Lx.here {s s':GT}:Lx s s s' s' id (fun y _=>y):=fun w K cs x h=>⟨[],cs,[],by simp,h,fun cn y _ hy=>by simpa using hy⟩
theorem Lx.st {f s f' s':GT} {get:PT f → PT s} {set:PT s' → PT f → PT f'} (h:Lx f s f' s' get set):Lx (.st f) s (.st f') s' get set:=h
theorem Lx.left {a b s a' s':GT} {get:PT a → PT s} {set:PT s' → PT a → PT a'} (h:Lx a s a' s' get set):Lx (.pair a b) s (.pair a' b) s' (fun x=>get x.1) (fun y x=>(set y x.1,x.2)):=by
  rintro w K cs x ⟨c1,c2,e,h1,h2⟩
  obtain ⟨d1,d,d2,e',er,es⟩:=h w K c1 x.1 h1
  exact ⟨d1,d,d2 ++ c2,by rw [e,e'];simp,er,fun cn y hl hy=>⟨d1 ++ cn ++ d2,c2,by simp,es cn y hl hy,h2⟩⟩
theorem Lx.right {a b s b' s':GT} {get:PT b → PT s} {set:PT s' → PT b → PT b'} (h:Lx b s b' s' get set):Lx (.pair a b) s (.pair a b') s' (fun x=>get x.2) (fun y x=>(x.1,set y x.2)):=by
  rintro w K cs x ⟨c1,c2,e,h1,h2⟩
  obtain ⟨d1,d,d2,e',er,es⟩:=h w K c2 x.2 h2
  exact ⟨c1 ++ d1,d,d2,by rw [e,e'];simp,er,fun cn y hl hy=>⟨c1,d1 ++ cn ++ d2,by simp,h1,es cn y hl hy⟩⟩
section
variable {w:World} {K:Nat → Prop} {b n:Nat} {t t' e:GT} {T:TypeId} {L:List (Option Nat)}
theorem Lx.unraw {get:PT t → Value} {set:PT (.sl e) → PT t → PT t'} (ln:Lx t .raw t' (.sl e) get set) {cs:List Value} {x:PT t} {y:Sl (PT e)} (h:RepCs t w K cs x) (hv:RepV (.sl e) w K (get x) y):RepCs t' w K cs (set y x):=by
  obtain ⟨c1,c,c2,rfl,⟨rfl,_⟩,es⟩:=ln w K cs x h
  obtain ⟨cs,⟨A,n,c0,rfl,h3⟩,e1⟩:=hv
  have e1:get x = .slice A n c0:=e1
  rw [e1]
  exact es [.slice A n c0] y rfl ⟨A,n,c0,rfl,h3⟩
theorem Bx.unrawX {get:PT t → Value} {set:PT (.sl e) → PT t → PT t'} (ln:Lx t .raw t' (.sl e) get set) {x:PT t} {y:Sl (PT e)} (h:Bx t T w K b x) (hv:RepV (.sl e) w K (get x) y):Bx t' T w K b (set y x):=by
  obtain ⟨cs,h1,h2⟩:=h
  exact ⟨cs,h1,ln.unraw h2 hv⟩
theorem RepV.unrawX {get:PT t → Value} {set:PT (.sl e) → PT t → PT t'} (ln:Lx t .raw t' (.sl e) get set) (ha:t.agg = true) (ha':t'.agg = true) {u:Value} {x:PT t} {y:Sl (PT e)} (h:RepV t w K u x) (hv:RepV (.sl e) w K (get x) y):RepV t' w K u (set y x):=by
  obtain ⟨cs,h1,h2⟩:=h
  rw [ha,if_pos rfl] at h2
  exact ⟨cs,ln.unraw h1 hv,by rw [ha',if_pos rfl];exact h2⟩
end
theorem d_z (b m:Nat):(⟨b,0,.none⟩:Addr).add m = ⟨b,m,.none⟩:=by rw [c_b,Nat.zero_add]
instance slDec {α:Type} [DecidableEq α]:DecidableEq (Sl α):=fun a b =>
  if h:a.xs = b.xs ∧ a.cap = b.cap then isTrue (by obtain ⟨x,c⟩:=a;obtain ⟨y,d⟩:=b;obtain ⟨h1,h2⟩:=h;simp only at h1 h2;rw [h1,h2]) else isFalse (by rintro rfl;exact h ⟨rfl,rfl⟩)
section
variable {w:World} {K:Nat → Prop} {b n:Nat} {t e:GT} {T E:TypeId} {L:List (Option Nat)}
end
end Go.Proofs.Ytmcpcdmonglkjaa
namespace Go.Proofs.Ytmcpcdmonglkjaa
open Go.RowKit
section
variable {w0 w w' A B:World} {L P Q LO LO':List (Option Nat)} {K:Nat → Prop} {n n0 b m:Nat} {t:GT} {o:Option Nat} {u:Value} {p:Addr} {x:PT t} {T:TypeId}
theorem c_Q {i:Nat} (hi:L[i]? = some o) {y:Option Nat} (h:y ∈ o :: L.eraseIdx i):y ∈ L:=by
  rcases List.mem_cons.1 h with e | h
  · rw [e];exact List.mem_of_getElem? hi
  · exact (List.eraseIdx_sublist _ _).subset h
theorem mv_perm:∀ {L:List (Option Nat)} {i:Nat},L[i]? = some o → (o :: L.eraseIdx i).Perm L
  | [],_,h=>by simp at h
  | y :: L,0,h=>by
    obtain rfl:y = o:=by simpa using h
    exact List.Perm.refl _
  | y :: L,i + 1,h=>(List.Perm.swap y o (L.eraseIdx i)).trans ((mv_perm (L:=L) (i:=i) (by simpa using h)).cons y)
theorem RepV.mv (h:RepV t w (Kx K n L) u x) (i:Nat) (hi:L[i]? = some o):RepV t w (Kx K n (o :: L.eraseIdx i)) u x:=h.keep (Keeps.refl _ _) fun c _ hk=>⟨hk.1,fun hm=>hk.2 (c_Q hi hm)⟩
theorem Pr.mv (h:Pr t w (Kx K n L) p x) (i:Nat) (hi:L[i]? = some o):Pr t w (Kx K n (o :: L.eraseIdx i)) p x:=h.keep (Keeps.refl _ _) fun c _ hk=>⟨hk.1,fun hm=>hk.2 (c_Q hi hm)⟩
theorem Bx.mv (h:Bx t T w (Kx K n L) b x) (i:Nat) (hi:L[i]? = some o):Bx t T w (Kx K n (o :: L.eraseIdx i)) b x:=by
  obtain ⟨cs,h1,h2⟩:=h
  exact ⟨cs,h1,h2.keep (Keeps.refl _ _) fun c _ hk=>⟨hk.1,fun hm=>hk.2 (c_Q hi hm)⟩⟩
theorem Ow.mv {e:GT} {E:TypeId} {v:Value} {xs:List (PT e)} {c:Option Nat} (h:Ow e E w m (Kx K n L) v xs c) (i:Nat) (hi:L[i]? = some o):Ow e E w m (Kx K n (o :: L.eraseIdx i)) v xs c:=by
  obtain ⟨cs,h1,h2,h3⟩:=h
  exact ⟨cs,h1,h2.keep (Keeps.refl _ _) fun c _ hk=>⟨hk.1,fun hm=>hk.2 (c_Q hi hm)⟩,h3⟩
theorem Ox.mv {q:Obj} (h:Ox q w b) (i:Nat) (hi:L[i]? = some o):Ox q w b:=h
theorem Wd.mv (h:Wd w0 w L) (i:Nat) (hi:L[i]? = some o):Wd w0 w (o :: L.eraseIdx i) :=
  ⟨h.below,fun c hc=>h.own c (c_Q hi hc),((mv_perm hi).pairwise_iff (fun {x y} h=>by
    rcases h with h | h
    · subst h
      cases y with
      | none=>exact .inl rfl
      | some y=>exact .inr (by simp)
    · exact .inr fun e=>h e.symm)).2 h.dis⟩
theorem Rnd.mv {LO:List (Option Nat)} (h:Rnd A LO w L) (i:Nat) (hi:L[i]? = some o):Rnd A LO w (o :: L.eraseIdx i):=⟨h.os,h.tape,h.output,h.size,h.keep,fun b hl hm=>h.old b hl (c_Q hi hm)⟩
theorem JI.mv {β:Type} {Inv:β → List (Option Nat) → World → Prop} {Bs:List (Option Nat)} {s:β} (h:JI Inv Bs n0 LO w s) (i:Nat) (hi:L[i]? = some o):JI Inv Bs n0 LO w s:=h
theorem Wd.front (h:Wd w0 w (P ++ LO)):Wd w0 w P:=h.less (List.sublist_append_left _ _)
theorem Yst.kkf (hy:Yst n A P B Q) {c:Nat} (hc:c < A.heap.size) (hk:Kx K n0 (P ++ LO) c):Kx K n0 (Q ++ LO) c :=
  ⟨hk.1,fun hm=>hk.2 (by
    rcases List.mem_append.1 hm with hm | hm
    · exact List.mem_append.2 (.inl (hy.old c hc hm))
    · exact List.mem_append.2 (.inr hm))⟩
theorem Yst.keepsf (hy:Yst n A P B Q):Keeps (Kx K n0 (P ++ LO)) A B:=⟨hy.size,fun p hp hk=>World.cell?_of_block (hy.keep _ hp fun hm=>hk.2 (List.mem_append.2 (.inl hm)))⟩
theorem RepV.yfr (LO:List (Option Nat)) (h:RepV t A (Kx K n0 (P ++ LO)) u x) (hy:Yst n A P B Q):RepV t B (Kx K n0 (Q ++ LO)) u x:=h.keep hy.keepsf fun c hc hk=>hy.kkf hc hk
theorem Pr.yfr (LO:List (Option Nat)) (h:Pr t A (Kx K n0 (P ++ LO)) p x) (hy:Yst n A P B Q):Pr t B (Kx K n0 (Q ++ LO)) p x:=h.keep hy.keepsf fun c hc hk=>hy.kkf hc hk
theorem Yst.apart (hy:Yst n A P B Q) (W:Wd w0 A (P ++ LO)) (hb:some b ∈ LO):some b ∉ P:=fun hm=>by
  rcases (List.pairwise_append.1 W.dis).2.2 _ hm _ hb with e | e
  · cases e
  · exact e rfl
theorem Bx.yfr (LO:List (Option Nat)) (h:Bx t T A (Kx K n0 (P ++ LO)) b x) (hy:Yst n A P B Q) (W:Wd w0 A (P ++ LO)) (hb:some b ∈ LO):Bx t T B (Kx K n0 (Q ++ LO)) b x:=by
  have hl:=h.lt
  obtain ⟨cs,h1,h2⟩:=h
  exact ⟨cs,(hy.keep b hl (hy.apart W hb)).trans h1,h2.keep hy.keepsf fun c hc hk=>hy.kkf hc hk⟩
theorem Ox.yfr (LO:List (Option Nat)) {q:Obj} (h:Ox q A b) (hy:Yst n A P B Q) (W:Wd w0 A (P ++ LO)) (hb:some b ∈ LO):Ox q B b:=⟨(hy.keep b h.lt (hy.apart W hb)).trans h.1,h.2⟩
theorem Ow.yfr (LO:List (Option Nat)) {e:GT} {E:TypeId} {v:Value} {xs:List (PT e)} {c:Option Nat} (h:Ow e E A m (Kx K n0 (P ++ LO)) v xs c) (hy:Yst n A P B Q) (W:Wd w0 A (P ++ LO)) (hb:v.ownBlock ∈ LO):Ow e E B m (Kx K n0 (Q ++ LO)) v xs c:=by
  obtain ⟨cs,h1,h2,h3⟩:=h
  refine ⟨cs,b_B h1 fun g ob hg ho _=>?_,h2.keep hy.keepsf fun c hc hk=>hy.kkf hc hk,h3⟩
  rw [hg] at hb
  exact (hy.keep g (Array.getElem?_eq_some_iff.1 ho).1 (hy.apart W hb)).trans ho
theorem Wd.yfr (LO:List (Option Nat)) (h:Wd w0 A (P ++ LO)) (hy:Yst w0.heap.size A P B Q):Wd w0 B (Q ++ LO):=by
  have hd:=List.pairwise_append.1 h.dis
  refine ⟨h.below.trans ⟨hy.os,hy.tape,hy.output,hy.size,fun k hk=>hy.keep k (by have:=h.below.size;omega) fun hm=>by have:=(h.own k (List.mem_append.2 (.inl hm))).1;omega⟩,fun c hc=>?_,List.pairwise_append.2 ⟨hy.dis,hd.2.1,fun y hz x hx=>?_⟩⟩
  · rcases List.mem_append.1 hc with hc | hc
    · exact hy.own c hc
    · have:=h.own c (List.mem_append.2 (.inr hc));have:=hy.size;omega
  · cases y with
    | none=>exact .inl rfl
    | some c =>
      refine .inr fun e=>?_
      subst e
      have hc:=(h.own c (List.mem_append.2 (.inr hx))).2
      rcases hd.2.2 _ (hy.old c hc hz) _ hx with e | e
      · cases e
      · exact e rfl
theorem Rnd.yfr {A0:World} {L0:List (Option Nat)} (LO:List (Option Nat)) (h:Rnd A0 L0 A (P ++ LO)) (hy:Yst n A P B Q):Rnd A0 L0 B (Q ++ LO) :=
  ⟨hy.os.trans h.os,hy.tape.trans h.tape,hy.output.trans h.output,Nat.le_trans h.size hy.size,fun b hl hm=>(hy.keep b (Nat.lt_of_lt_of_le hl h.size) fun h2=>hm (h.old b hl (List.mem_append.2 (.inl h2)))).trans (h.keep b hl hm),
   fun b hl hm=>by
    rcases List.mem_append.1 hm with hm | hm
    · exact h.old b hl (List.mem_append.2 (.inl (hy.old b (Nat.lt_of_lt_of_le hl h.size) hm)))
    · exact h.old b hl (List.mem_append.2 (.inr hm))⟩
theorem Ab.rnd {Bs P L:List (Option Nat)} (h:Rnd A P w L) (hab:Ab Bs n0 w w') (hn:A.heap.size ≤ n0) (hs:∀ b,some b ∈ Bs → b < A.heap.size → some b ∈ P):Rnd A P w' L :=
  ⟨hab.os.trans h.os,hab.tape.trans h.tape,hab.output.trans h.output,Nat.le_trans h.size hab.size,
   fun b hb hm=>(hab.low b (Nat.lt_of_lt_of_le hb hn) (Nat.lt_of_lt_of_le hb h.size) fun hB=>hm (hs b hB hb)).trans (h.keep b hb hm),h.old⟩
theorem Ow.blk {e:GT} {E:TypeId} {v:Value} {xs:List (PT e)} {c:Option Nat} (h:Ow e E w m K v xs c) {j:Int} {y:PT e} (hj:idx xs j = some y):∃ g,v.ownBlock = some g:=by
  obtain ⟨_,hg',_⟩:=b_j hj
  obtain ⟨g',cap,rfl,hR⟩:=h.el hg'
  exact ⟨g',rfl⟩
theorem Ow.elt {e:GT} {E:TypeId} {v:Value} {xs:List (PT e)} {c:Option Nat} (h:Ow e E w m K v xs c) {g:Nat} (hg:v.ownBlock = some g) {j:Int} {y:PT e} (hj:idx xs j = some y):RepAt e w K ⟨g,j.toNat * e.sz,.none⟩ y:=by
  obtain ⟨_,hg',_⟩:=b_j hj
  obtain ⟨g',cap,rfl,hR⟩:=h.el hg'
  obtain rfl:g' = g:=by simpa [Value.ownBlock] using hg
  exact hR
end
structure Gs (w0:World) (I:List Nat) (L:List (Option Nat)) (s b:Nat) (F:GW → Prop) (g g':GW):Prop where
  os:g'.2.os = g.2.os
  tape:g'.2.tape = g.2.tape
  output:g'.2.output = g.2.output
  size:g.2.heap.size ≤ g'.2.heap.size
  block:∀ k,k < g.2.heap.size → (k = b → (g.1 s ≠ none ∨ g'.1 s = none)) → g'.2.heap[k]? = g.2.heap[k]?
  same:∀ j o,g.1 j = some o → g'.1 j = some o
  new:∀ j c,g.1 j = none → g'.1 j = some (some c) → g.2.heap.size ≤ c
  wd:Wd w0 g.2 (lm I L g.1) → Wd w0 g'.2 (lm I L g'.1)
  sto:g.1 s = none → g'.1 s ≠ none → F g'
theorem lm_oth {I:List Nat} {L:List (Option Nat)} {M:Nat → Option (Option Nat)} {s:Nat} {o:Option Nat} (h:s ∉ I):lm I L (b_y M s o) = lm I L M:=by
  unfold lm
  congr 1
  refine List.map_congr_left fun k hk=>?_
  have:k ≠ s:=fun e=>h (e ▸ hk)
  simp [b_y,this]
section
variable {w0 w w' A B:World} {I:List Nat} {L LO:List (Option Nat)} {K:Nat → Prop} {n s b c m:Nat} {F:GW → Prop} {g g':GW} {M:Nat → Option (Option Nat)} {t:GT} {u:Value} {x:PT t} {T:TypeId}
theorem Gs.refl (g:GW):Gs w0 I L s b F g g:=⟨rfl,rfl,rfl,Nat.le_refl _,fun _ _ _=>rfl,fun _ _ h=>h,fun j c h h'=>(by rw [h] at h';cases h'),id,fun h h'=>absurd h h'⟩
theorem Gs.trans (hF:∀ g g',Gs w0 I L s b F g g' → g.1 s ≠ none → F g → F g') (a b' c:GW) (h:Gs w0 I L s b F a b') (k:Gs w0 I L s b F b' c):Gs w0 I L s b F a c:=by
  refine ⟨k.os.trans h.os,k.tape.trans h.tape,k.output.trans h.output,Nat.le_trans h.size k.size,fun i hi hb=>?_,fun j o e=>k.same j o (h.same j o e),fun j x e e'=>?_,fun e=>k.wd (h.wd e),fun h1 h2=>?_⟩
  · refine (k.block i (Nat.lt_of_lt_of_le hi h.size) fun e=>?_).trans (h.block i hi fun e=>?_)
    · rcases hb e with h1 | h1
      · cases hs:a.1 s with
        | none=>exact absurd hs h1
        | some o=>exact .inl (by rw [h.same s o hs];simp)
      · exact .inr h1
    · rcases hb e with h1 | h1
      · exact .inl h1
      · cases hs:b'.1 s with
        | none=>exact .inr rfl
        | some o=>rw [k.same s o hs] at h1;cases h1
  · cases hb:b'.1 j with
    | none=>have:=k.new j x hb e';have:=h.size;omega
    | some o =>
      have:=k.same j o hb
      rw [e'] at this
      obtain rfl:some x = o:=Option.some.inj this
      exact h.new j x e hb
  · cases hs:b'.1 s with
    | none=>exact k.sto hs h2
    | some o=>exact hF _ _ k (by rw [hs];simp) (h.sto h1 (by rw [hs];simp))
theorem Gs.ofBelow (hb:Below w.heap.size w w'):Gs w0 I L s b F (M,w) (M,w'):=⟨hb.os,hb.tape,hb.output,hb.size,fun k hk _=>hb.block k hk,fun _ _ h=>h,fun j c h h'=>(by have h:M j = none:=h;have h':M j = some (some c):=h';rw [h] at h';cases h'),fun h=>h.step hb,fun h h'=>absurd h h'⟩
theorem Gs.drawn (w:World):Gs w0 I L s b F (M,w) (M,{ w with drawn:=w.drawn + 1 }):=Gs.ofBelow ⟨rfl,rfl,rfl,Nat.le_refl _,fun _ _=>rfl⟩
theorem Gs.lay {i:Nat} {o:Option Nat} (hN:NewO w w' o) (hM:M i = none) (hn:I.Nodup) (hi:i ∈ I) (hs:s ∉ I):Gs w0 I L s b F (M,w) (b_y M i o,w'):=by
  have h:=Gr.lay (w0:=w0) (I:=I) (L:=L) (M:=M) hN hM hn hi
  have hsi:s ≠ i:=fun e=>hs (e ▸ hi)
  refine ⟨h.below.os,h.below.tape,h.below.output,h.below.size,fun k hk _=>h.below.block k hk,h.same,h.new,h.wd,fun h1 h2=>absurd (show b_y M i o s = none from ?_) h2⟩
  simpa [b_y,hsi] using h1
theorem Gs.store (hw:Wrote b w w') (hM:M s = none) (hs:s ∉ I) (hb:some b ∈ lm I L M) (hF:F (b_y M s none,w')):Gs w0 I L s b F (M,w) (b_y M s none,w'):=by
  refine ⟨hw.os,hw.tape,hw.output,Nat.le_of_eq hw.size.symm,fun k hk hkb=>hw.block k fun e=>?_,fun j o h=>?_,fun j c h h'=>?_,fun h=>?_,fun _ _=>hF⟩
  · rcases hkb e with h | h
    · exact h hM
    · have h:b_y M s none s = none:=h
      simp [b_y] at h
  · have h:M j = some o:=h
    have:j ≠ s:=fun e=>by rw [e,hM] at h;cases h
    show b_y M s none j = some o
    simpa [b_y,this] using h
  · have h:M j = none:=h
    have h':b_y M s none j = some (some c):=h'
    by_cases e:j = s
    · subst e;simp [b_y] at h'
    · simp [b_y,e] at h';rw [h] at h';cases h'
  · have h:Wd w0 w (lm I L M):=h
    show Wd w0 w' (lm I L (b_y M s none))
    rw [lm_oth hs]
    exact h.wrote hw hb
theorem Gs.kk (h:Gs w0 I L s b F g g') {c:Nat} (hc:c < g.2.heap.size) (hk:Kx K n (lm I L g.1) c):Kx K n (lm I L g'.1) c:=⟨hk.1,fun hm=>by
  rcases List.mem_append.1 hm with hm | hm
  · obtain ⟨i,hi,e⟩:=List.mem_map.1 hm
    cases hg:g.1 i with
    | none =>
      cases hg':g'.1 i with
      | none=>rw [hg'] at e;cases e
      | some o =>
        rw [hg'] at e
        have e:o = some c:=e
        have:=h.new i c hg (by rw [hg',e])
        omega
    | some o =>
      rw [h.same i o hg] at e
      exact hk.2 (List.mem_append.2 (.inl (List.mem_map.2 ⟨i,hi,by rw [hg];exact e⟩)))
  · exact hk.2 (List.mem_append.2 (.inr hm))⟩
theorem d_h {x:Option Nat} (h:x ∈ L):x ∈ lm I L M:=List.mem_append.2 (.inr h)
theorem Gs.keeps (h:Gs w0 I L s b F g g') (hb:some b ∈ L):Keeps (Kx K n (lm I L g.1)) g.2 g'.2 :=
  ⟨h.size,fun p hp hk=>World.cell?_of_block (h.block _ hp fun e=>absurd (d_h hb) (by rw [← e];exact hk.2))⟩
theorem RepV.gs (h:RepV t g.2 (Kx K n (lm I L g.1)) u x) (hg:Gs w0 I L s b F g g') (hb:some b ∈ L):RepV t g'.2 (Kx K n (lm I L g'.1)) u x:=h.keep (hg.keeps hb) fun c hc hk=>hg.kk hc hk
theorem Pr.gs {p:Addr} (h:Pr t g.2 (Kx K n (lm I L g.1)) p x) (hg:Gs w0 I L s b F g g') (hb:some b ∈ L):Pr t g'.2 (Kx K n (lm I L g'.1)) p x:=h.keep (hg.keeps hb) fun c hc hk=>hg.kk hc hk
theorem Bx.gs (h:Bx t T g.2 (Kx K n (lm I L g.1)) c x) (hg:Gs w0 I L s b F g g') (hb:some b ∈ L) (hne:c = b → (g.1 s ≠ none ∨ g'.1 s = none)):Bx t T g'.2 (Kx K n (lm I L g'.1)) c x:=by
  have hl:=h.lt
  obtain ⟨cs,h1,h2⟩:=h
  exact ⟨cs,(hg.block c hl hne).trans h1,h2.keep (hg.keeps hb) fun c hc hk=>hg.kk hc hk⟩
theorem Ow.gs {e:GT} {E:TypeId} {v:Value} {xs:List (PT e)} {q:Option Nat} (h:Ow e E g.2 m (Kx K n (lm I L g.1)) v xs q) (hg:Gs w0 I L s b F g g') (hb:some b ∈ L) (hne:v.ownBlock = some b → (g.1 s ≠ none ∨ g'.1 s = none)):Ow e E g'.2 m (Kx K n (lm I L g'.1)) v xs q:=by
  obtain ⟨cs,h1,h2,h3⟩:=h
  exact ⟨cs,b_B h1 fun g0 ob hg0 ho _=>(hg.block g0 (Array.getElem?_eq_some_iff.1 ho).1 fun e=>hne (by rw [hg0,e])).trans ho,h2.keep (hg.keeps hb) fun c hc hk=>hg.kk hc hk,h3⟩
theorem Ox.gs {q:Obj} (h:Ox q g.2 c) (hg:Gs w0 I L s b F g g') (hne:c ≠ b):Ox q g'.2 c:=⟨(hg.block c h.lt fun e=>absurd e hne).trans h.1,h.2⟩
theorem Gs.wd' (h:Gs w0 I L s b F g g') (W:Wd w0 g.2 (lm I L g.1)):Wd w0 g'.2 (lm I L g'.1):=h.wd W
theorem Rnd.gs (h:Rnd A LO g.2 (lm I L g.1)) (hg:Gs w0 I L s b F g g') (hb:some b ∈ L):Rnd A LO g'.2 (lm I L g'.1) :=
  ⟨hg.os.trans h.os,hg.tape.trans h.tape,hg.output.trans h.output,Nat.le_trans h.size hg.size,
   fun k hl hm=>(hg.block k (Nat.lt_of_lt_of_le hl h.size) fun e=>absurd (h.old k hl (by rw [e];exact d_h hb)) hm).trans (h.keep k hl hm),
   fun k hl hm=>Classical.byContradiction fun hb' =>
    (hg.kk (K:=fun _=>True) (n:=0) (Nat.lt_of_lt_of_le hl h.size) ⟨.inl trivial,fun h2=>hb' (h.old k hl h2)⟩).2 hm⟩
def c_4 (w0:World) (I:List Nat) (L:List (Option Nat)) (s b:Nat) (F:GW → Prop) (f:Value → GW → Prop):Prop:=∀ v g g',Gs w0 I L s b F g g' → f v g → f v g'
def isStG (s:Nat):Value → GW → Prop:=fun _ g=>g.1 s = some none
def isOeG (v0:Value) (sz:Nat) (j:Int):Value → GW → Prop:=fun v _=>∃ gb,v0.ownBlock = some gb ∧ v = .pointer (some ⟨gb,j.toNat * sz,.none⟩)
def isOfG (v0:Value) (sz:Nat) (j:Int) (k:Nat):Value → GW → Prop:=fun v _=>∃ gb,v0.ownBlock = some gb ∧ v = .pointer (some ((⟨gb,j.toNat * sz,.none⟩:Addr).add k))
theorem stabGs_st:c_4 w0 I L s b F (isStG s):=fun _ _ _ hg h=>hg.same _ _ h
theorem stabGs_oe {v0:Value} {sz:Nat} {j:Int}:c_4 w0 I L s b F (isOeG v0 sz j):=fun _ _ _ _ h=>h
theorem stabGs_of {v0:Value} {sz k:Nat} {j:Int}:c_4 w0 I L s b F (isOfG v0 sz j k):=fun _ _ _ _ h=>h
theorem b_Z (y:Value):c_4 w0 I L s b F (eqvG y):=fun _ _ _ _ h=>h
theorem c_y {k:IntKind} {y:Int}:c_4 w0 I L s b F (isIG k y):=fun _ _ _ _ h=>h
def StabGsL (w0:World) (I:List Nat) (L:List (Option Nat)) (s b:Nat) (F:GW → Prop):List (Value → GW → Prop) → Prop
  | []=>True
  | f :: fs=>c_4 w0 I L s b F f ∧ StabGsL w0 I L s b F fs
theorem StabGsL.all:∀ {Fs:List (Value → GW → Prop)},StabGsL w0 I L s b F Fs → ∀ f ∈ Fs,∀ v g g',Gs w0 I L s b F g g' → f v g → f v g'
  | f :: fs,h,g,hg=>by
    rcases List.mem_cons.1 hg with rfl | hg
    · exact h.1
    · exact StabGsL.all h.2 g hg
def PhB (b:Nat) (t:GT) (T:TypeId) (K:Nat → Prop) (n:Nat) (I:List Nat) (L:List (Option Nat)) (x:PT t):GW → Prop:=fun g=>Bx t T g.2 (Kx K n (lm I L g.1)) b x
def PhO (e:GT) (E:TypeId) (m:Nat) (K:Nat → Prop) (n:Nat) (I:List Nat) (L:List (Option Nat)) (v:Value) (xs:List (PT e)) (q:Option Nat):GW → Prop:=fun g=>Ow e E g.2 m (Kx K n (lm I L g.1)) v xs q
def PhR (b:Nat) (t:GT) (T:TypeId) (K:Nat → Prop) (n:Nat) (I:List Nat) (L:List (Option Nat)) (i:Nat) (Y:Nat → PT t):GW → Prop:=fun g=>∃ b2,g.1 i = some (some b2) ∧ Bx t T g.2 (Kx K n (lm I L g.1)) b (Y b2)
theorem PhR.stab (hb:some b ∈ L) {i:Nat} {Y:Nat → PT t}:∀ g g',Gs w0 I L s b (PhR b t T K n I L i Y) g g' → g.1 s ≠ none → PhR b t T K n I L i Y g → PhR b t T K n I L i Y g':=fun _ _ hg hs ⟨b2,h1,h⟩=>⟨b2,hg.same _ _ h1,Bx.gs h hg hb fun _=>.inl hs⟩
theorem PhB.stab (hb:some b ∈ L) {x:PT t}:∀ g g',Gs w0 I L s b (PhB b t T K n I L x) g g' → g.1 s ≠ none → PhB b t T K n I L x g → PhB b t T K n I L x g':=fun _ _ hg hs h=>Bx.gs h hg hb fun _=>.inl hs
theorem PhO.stab (hb:some b ∈ L) {e:GT} {E:TypeId} {v:Value} {xs:List (PT e)} {q:Option Nat}:∀ g g',Gs w0 I L s b (PhO e E m K n I L v xs q) g g' → g.1 s ≠ none → PhO e E m K n I L v xs q g → PhO e E m K n I L v xs q g':=fun _ _ hg hs h=>Ow.gs h hg hb fun _=>.inl hs
end
section
variable {P:Program} {Q:Exit → Act → World → Prop} {a0:Act} {w0 w:World}
variable {ds:List Deferred} {N d i s b:Nat} {A:Act} {l:List (Nat × Value)} {v:Value} {f:Value → GW → Prop} {w':World} {M:Nat → Option (Option Nat)} {I:List Nat} {L:List (Option Nat)} {F:GW → Prop}
theorem RPostS.mk_ (S:StD ds N A l) (hd:lk l d = some v) (h0:a0.defers = ds) (hf:f v (M,w')) (hb:Below w.heap.size w w'):RPostG (Gs w0 I L s b F) i (some d) f a0.defers (M,w) Q .normal A w':=by
  refine ⟨M,S.defers.trans h0.symm,?_,Gs.ofBelow hb,fun _ _=>rfl⟩
  rw [show b_d (some d) A = v by simp [b_d,S.at_ d v hd]]
  exact hf
theorem RPostS.lay (S:StD ds N A l) (hd:lk l d = some v) (h0:a0.defers = ds) (o:Option Nat) (hN:NewO w w' o) (hM:M i = none) (hn:I.Nodup) (hi:i ∈ I) (hs:s ∉ I) (hf:f v (b_y M i o,w')):RPostG (Gs w0 I L s b F) i (some d) f a0.defers (M,w) Q .normal A w':=by
  refine ⟨b_y M i o,S.defers.trans h0.symm,?_,Gs.lay hN hM hn hi hs,fun j hj=>by simp [b_y,hj]⟩
  rw [show b_d (some d) A = v by simp [b_d,S.at_ d v hd]]
  exact hf
theorem RPostS.sto (S:StD ds N A l) (h0:a0.defers = ds) (hw:Wrote b w w') (hM:M s = none) (hs:s ∉ I) (hb:some b ∈ lm I L M) (hF:F (b_y M s none,w')):RPostG (Gs w0 I L s b F) s none (isStG s) a0.defers (M,w) Q .normal A w' :=
  ⟨b_y M s none,S.defers.trans h0.symm,by simp [isStG,b_y],Gs.store hw hM hs hb hF,fun j hj=>by simp [b_y,hj]⟩
theorem EndEG.none_ {g:GW} {Q:Act → Prop} {f:Value → GW → Prop} {fs:List (Value → GW → Prop)} {o:Oper} {os:List Oper} {a:Act} (hd:o.dst = none) (h:f undef g → EndEG g Q fs os a):EndEG g Q (f :: fs) (o :: os) a:=by
  unfold EndEG
  rw [hd]
  exact h
theorem d_i {l:List Oper} (n:Nat) (nxt:List Nat) (w0:World) (I:List Nat) (L:List (Option Nat)) (s b:Nat) (F:GW → Prop) (hF:∀ g g',Gs w0 I L s b F g g' → g.1 s ≠ none → F g → F g') (Fs:List (Value → GW → Prop)) (D:List (List (Nat × Nat))) (hm:P.follows .mixedOrders = true) (hB:a_z l.toArray a0.tmps.size = true) (hsel:Region.noSelect l.toArray = true) (hsuf:sufB l.toArray n nxt = true)
    (hD:a_5 (a_X (l.take n).toArray) l.toArray (l.take n) D = true) (hlen:Fs.length = (l.take n).length) (hst:StabGsL w0 I L s b F Fs) (h:RunAllG (Gs w0 I L s b F) P l.toArray a0 (fun _=>none,w) Q Fs 0 (l.take n) D) (hend:∀ M W,Gs w0 I L s b F (fun _=>none,w) (M,W) → EndEG (M,W) (fun a=>wpList P l.toArray Q (l.drop n) a W) Fs (l.take n) a0):e_d P l Q a0 w :=
  d_y (K:=fun _=>True) n nxt Gs.refl (Gs.trans hF) (Gs.drawn w) Fs D hm hB hsel hsuf hD hlen (fun f hf v g g' hg h=>StabGsL.all hst f hf v g g' hg h) h fun g hg=>hend g.1 g.2 hg
theorem d_j {id:Nat} {l:List Oper} (n:Nat) (nxt:List Nat) (w0:World) (I:List Nat) (L:List (Option Nat)) (s b:Nat) (F:GW → Prop) (hF:∀ g g',Gs w0 I L s b F g g' → g.1 s ≠ none → F g → F g') (Fs:List (Value → GW → Prop)) (D:List (List (Nat × Nat))) (hm:P.follows .mixedOrders = true) (hB:a_z l.toArray a0.tmps.size = true) (hsel:Region.noSelect l.toArray = true) (hsuf:sufB l.toArray n nxt = true)
    (hD:a_5 (a_X (l.take n).toArray) l.toArray (l.take n) D = true) (hlen:Fs.length = (l.take n).length) (hst:StabGsL w0 I L s b F Fs) (h:RunAllG (Gs w0 I L s b F) P l.toArray a0 (fun _=>none,w) Q Fs 0 (l.take n) D) (hend:∀ M W,Gs w0 I L s b F (fun _=>none,w) (M,W) → EndEG (M,W) (fun a=>wpList P l.toArray Q (l.drop n) a W) Fs (l.take n) a0):(Code.region id l.toArray true).wp P Q a0 w:=wp_region_any hm (d_i n nxt w0 I L s b F hF Fs D hm hB hsel hsuf hD hlen hst h hend)
end
end Go.Proofs.Ytmcpcdmonglkjaa
namespace Go.Proofs.Ytmcpcdmonglkjaa
open Go.RowKit
@[reducible] def pB (b:Nat):Value:=.pointer (some (⟨b,0,.none⟩:Addr))
section
variable {w0 w w' A:World} {L P LO:List (Option Nat)} {K:Nat → Prop} {n b m:Nat} {t:GT} {u:Value} {p:Addr} {x:PT t} {T:TypeId}
theorem RepV.fr (P LO:List (Option Nat)) (h:RepV t w (Kx K n (P ++ LO)) u x):RepV t w (Kx K n P) u x:=h.less (List.sublist_append_left _ _)
theorem Ow.fr (P LO:List (Option Nat)) {e:GT} {E:TypeId} {v:Value} {xs:List (PT e)} {c:Option Nat} (h:Ow e E w m (Kx K n (P ++ LO)) v xs c):Ow e E w m (Kx K n P) v xs c:=by
  obtain ⟨cs,h1,h2,h3⟩:=h
  exact ⟨cs,h1,h2.keep (Keeps.refl _ _) fun c _ hk=>⟨hk.1,fun hm=>hk.2 (List.mem_append.2 (.inl hm))⟩,h3⟩
theorem Kx.newW {c:Nat} (hN:Wd w w' P) (hc:c < w.heap.size) (hk:Kx K n L c):Kx K n (P ++ L) c:=⟨hk.1,fun hm=>by
  rcases List.mem_append.1 hm with hm | hm
  · have:=(hN.own c hm).1;omega
  · exact hk.2 hm⟩
theorem RepV.newW (h:RepV t w (Kx K n L) u x) (hN:Wd w w' P):RepV t w' (Kx K n (P ++ L)) u x:=h.keep (Keeps.below hN.below) fun c hc hk=>Kx.newW hN hc hk
theorem Pr.newW (h:Pr t w (Kx K n L) p x) (hN:Wd w w' P):Pr t w' (Kx K n (P ++ L)) p x:=h.keep (Keeps.below hN.below) fun c hc hk=>Kx.newW hN hc hk
theorem Bx.newW (h:Bx t T w (Kx K n L) b x) (hN:Wd w w' P):Bx t T w' (Kx K n (P ++ L)) b x:=by
  have hl:=h.lt
  obtain ⟨cs,h1,h2⟩:=h
  exact ⟨cs,(hN.below.block b hl).trans h1,h2.keep (Keeps.below hN.below) fun c hc hk=>Kx.newW hN hc hk⟩
theorem Ow.newW {e:GT} {E:TypeId} {v:Value} {xs:List (PT e)} {c:Option Nat} (h:Ow e E w m (Kx K n L) v xs c) (hN:Wd w w' P):Ow e E w' m (Kx K n (P ++ L)) v xs c:=by
  obtain ⟨cs,h1,h2,h3⟩:=h
  exact ⟨cs,h1.kept (row:=.none) ⟨hN.below.os,hN.below.tape,hN.below.output,hN.below.size,fun k hk _=>hN.below.block k hk⟩ (by cases hv:v.ownBlock <;> simp),h2.keep (Keeps.below hN.below) fun d hc hk=>Kx.newW hN hc hk,h3⟩
theorem Ox.newW {q:Obj} (h:Ox q w b) (hN:Wd w w' P):Ox q w' b:=h.step hN.below
theorem Rnd.newW (h:Rnd A LO w L) (hN:Wd w w' P):Rnd A LO w' (P ++ L) :=
  have h1:=h.step hN.below
  ⟨h1.os,h1.tape,h1.output,h1.size,h1.keep,fun b hl hm=>by
    rcases List.mem_append.1 hm with hm | hm
    · have:=(hN.own b hm).1;have:=h.size;omega
    · exact h.old b hl hm⟩
theorem JI.newW {β:Type} {Inv:β → List (Option Nat) → World → Prop} {Bs:List (Option Nat)} {n0:Nat} {s:β} (h:JI Inv Bs n0 LO w s) (hN:Wd w w' P):JI Inv Bs n0 LO w' s:=h.step hN.below
theorem Wd.newW (h:Wd w0 w L) (hN:Wd w w' P):Wd w0 w' (P ++ L):=by
  have hs:=hN.below.size
  have hz:=h.below.size
  refine ⟨h.below.trans (hN.below.mono hz),fun c hm=>?_,List.pairwise_append.2 ⟨hN.dis,h.dis,fun y hy z hz=>?_⟩⟩
  · rcases List.mem_append.1 hm with hm | hm
    · have:=hN.own c hm;omega
    · have:=h.own c hm;omega
  · cases y with
    | none=>exact .inl rfl
    | some c =>
      refine .inr fun e=>?_
      subst e
      have:=(hN.own c hy).1;have:=(h.own c hz).2;omega
end
section
variable {w:World} {K:Nat → Prop} {e:GT}
end
section
variable {ds:List Deferred} {N:Nat} {a:Act} {l:List (Nat × Value)} {w w0:World} {P:Program} {ops:Array Oper} {Q:Exit → Act → World → Prop} {rest:List Oper} {o:Oper} {Kont:Act → World → Prop} {d:Nat} {K:Nat → Prop} {n:Nat} {L:List (Option Nat)}
end
theorem c_R {ks:List Nat}:∀ (l:List (Nat × Value)) {i:Nat} {u:Value},lk (l.filter fun p=>ks.contains p.1) i = some u → lk l i = some u
  | [],_,_,h=>h
  | (k,v) :: l,i,u,h=>by
    by_cases hk:ks.contains k = true
    · rw [List.filter_cons_of_pos (by simpa using hk)] at h
      unfold lk at h ⊢
      cases hb:Nat.beq k i with
      | true=>rw [hb] at h;exact h
      | false=>rw [hb] at h;exact c_R l h
    · rw [List.filter_cons_of_neg (by simpa using hk)] at h
      have h1:=c_R l h
      unfold lk
      cases hb:Nat.beq k i with
      | false=>exact h1
      | true =>
        exfalso
        obtain rfl:=Nat.eq_of_beq_eq_true hb
        have:∀ (l:List (Nat × Value)),lk (l.filter fun p=>ks.contains p.1) k = none:=by
          intro l
          induction l with
          | nil=>rfl
          | cons p l ih =>
            obtain ⟨q,v'⟩:=p
            by_cases hq:ks.contains q = true
            · rw [List.filter_cons_of_pos (by simpa using hq)]
              unfold lk
              cases hb2:Nat.beq q k with
              | true=>obtain rfl:=Nat.eq_of_beq_eq_true hb2;exact absurd hq hk
              | false=>exact ih
            · rw [List.filter_cons_of_neg (by simpa using hq)];exact ih
        rw [this l] at h
        cases h
section
variable {ds:List Deferred} {N:Nat} {a:Act} {l:List (Nat × Value)} {w:World} {P:Program} {ops:Array Oper} {Q:Exit → Act → World → Prop}
theorem StD.keep (S:StD ds N a l) (ks:List Nat):StD ds N a (l.filter fun p=>ks.contains p.1):=⟨S.size,S.defers,fun i u hi=>S.at_ i u (c_R l hi)⟩
end
end Go.Proofs.Ytmcpcdmonglkjaa
namespace Go.Proofs.Ytmcpcdmonglkjaa
open Go.RowKit
section
variable {w0 w A:World} {I:List Nat} {L L2 LO:List (Option Nat)} {s b:Nat} {F:GW → Prop} {g g':GW}
end
theorem Br.free {t:GT} {w:World} {K:Nat → Prop} {n:Nat} {L:List (Option Nat)} {p:Addr} {x:PT t} (h:Br t w (Kx K n L) p x):Br t w (Kx K n []) p x :=
  ⟨h.1.keep (Keeps.refl _ _) (fun c _ hk=>⟨hk.1,fun h=>(List.not_mem_nil h).elim⟩) (fun i _=>rfl),h.2⟩
section
variable {ds:List Deferred} {N:Nat} {a:Act} {l:List (Nat × Value)} {w w0:World} {P:Program} {ops:Array Oper} {Q:Exit → Act → World → Prop} {rest:List Oper} {o:Oper} {Kont:Act → World → Prop} {d:Nat} {K:Nat → Prop} {n:Nat} {L:List (Option Nat)}
end
end Go.Proofs.Ytmcpcdmonglkjaa
namespace Go.Proofs.Ytmcpcdmonglkjaa
open Go.RowKit
section
variable {P:Program} {ops:Array Oper} {Q:Exit → Act → World → Prop} {a0 A:Act} {w0 w:World} {ds:List Deferred} {N d i s b:Nat} {l:List (Nat × Value)} {v:Value} {o:Oper} {M:Nat → Option (Option Nat)} {I:List Nat} {L:List (Option Nat)}
theorem RPost.one {R:World → World → Prop} {f:Value → World → Prop} (S:StD ds N A l) (tys:List (TypeId × GT)) (ht:tysOk P tys = true) (hd:o.dst = some d) (h:(a_r tys ops N [o] l).bind (fun q=>lk q d) = some v) (h0:a0.defers = ds) (hf:f v w) (hb:R w w) :
    FillE w [] A (fun B=>wpList P ops (b_R R o.dst f a0.defers w Q) [o] B w):=by
  show wpList P ops _ [o] A w
  obtain ⟨q,h1,h2⟩:=Option.bind_eq_some_iff.1 h
  refine a_G S tys ht 1 (l0:=[o]) h1 fun a' S'=>?_
  rw [hd]
  exact wpList_nil (RPost.mk_ S' h2 h0 hf hb)
theorem RPostG.one {f:Value → GW → Prop} (S:StD ds N A l) (tys:List (TypeId × GT)) (ht:tysOk P tys = true) (hd:o.dst = some d) (h:(a_r tys ops N [o] l).bind (fun q=>lk q d) = some v) (h0:a0.defers = ds) (hf:f v (M,w)) (hb:Below w.heap.size w w) :
    FillEG (M,w) [] A (fun B=>wpList P ops (RPostG (Gr w0 I L) i o.dst f a0.defers (M,w) Q) [o] B w):=by
  show wpList P ops _ [o] A w
  obtain ⟨q,h1,h2⟩:=Option.bind_eq_some_iff.1 h
  refine a_G S tys ht 1 (l0:=[o]) h1 fun a' S'=>?_
  rw [hd]
  exact wpList_nil (RPostG.mk_ S' h2 h0 hf hb)
theorem RPostS.one {F:GW → Prop} {f:Value → GW → Prop} (S:StD ds N A l) (tys:List (TypeId × GT)) (ht:tysOk P tys = true) (hd:o.dst = some d) (h:(a_r tys ops N [o] l).bind (fun q=>lk q d) = some v) (h0:a0.defers = ds) (hf:f v (M,w)) (hb:Below w.heap.size w w) :
    FillEG (M,w) [] A (fun B=>wpList P ops (RPostG (Gs w0 I L s b F) i o.dst f a0.defers (M,w) Q) [o] B w):=by
  show wpList P ops _ [o] A w
  obtain ⟨q,h1,h2⟩:=Option.bind_eq_some_iff.1 h
  refine a_G S tys ht 1 (l0:=[o]) h1 fun a' S'=>?_
  rw [hd]
  exact wpList_nil (RPostS.mk_ S' h2 h0 hf hb)
end
end Go.Proofs.Ytmcpcdmonglkjaa
namespace Go.Proofs.Ytmcpcdmonglkjaa
open Go.RowKit
section
variable {w w':World} {n:Nat} {K:Nat → Prop} {L:List (Option Nat)} {e:GT} {E:TypeId} {v:Value} {xs:List (PT e)} {c:Option Nat}
end
section
variable {ds:List Deferred} {N:Nat} {a:Act} {l:List (Nat × Value)} {w w0:World} {P:Program} {ops:Array Oper} {Q:Exit → Act → World → Prop} {rest:List Oper} {o:Oper} {Kont:Act → World → Prop} {d:Nat} {K:Nat → Prop} {n:Nat} {L:List (Option Nat)}
theorem clip_val {α:Type} {x r:Sl α} (h:sl3I x 0 (a_e x) (a_e x) = some r):r = ⟨x.xs,some x.xs.length⟩:=by
  unfold sl3I a_e at h
  rw [if_pos (by omega)] at h
  rw [← Option.some.inj h]
  simp
end
end Go.Proofs.Ytmcpcdmonglkjaa
namespace Go.Proofs.Ytmcpcdmonglkjaa
open Go.RowKit
def Opt1 (t:GT) (T:TypeId) (w:World) (K:Nat → Prop) (v:Value) (x:Option (PT t)):Prop:=(v = .pointer .none ∧ x = .none) ∨ ∃ b y,v = pB b ∧ x = some y ∧ Bx t T w K b y
section
variable {w0 w w':World} {L P:List (Option Nat)} {K:Nat → Prop} {n b:Nat} {t:GT} {v:Value} {T:TypeId}
theorem Opt1.fr (P LO:List (Option Nat)) {x:Option (PT t)} (h:Opt1 t T w (Kx K n (P ++ LO)) v x):Opt1 t T w (Kx K n P) v x:=by
  rcases h with h | ⟨b,y,h1,h2,h3⟩
  · exact .inl h
  · exact .inr ⟨b,y,h1,h2,h3.less (List.sublist_append_left _ _)⟩
theorem Opt1.open {α:Type} {f:α → PT t} {r:Option α} (h:Opt1 t T w K v (r.map f)):(v = .pointer .none ∧ r = .none) ∨ ∃ b y,v = pB b ∧ r = some y ∧ Bx t T w K b (f y):=by
  rcases h with ⟨h1,h2⟩ | ⟨b,y,h1,h2,h3⟩
  · cases r with
    | none=>exact .inl ⟨h1,rfl⟩
    | some z=>cases h2
  · cases r with
    | none=>cases h2
    | some z=>exact .inr ⟨b,z,h1,rfl,by cases h2;exact h3⟩
theorem Opt1.nil:Opt1 t T w K (.pointer .none) .none:=.inl ⟨rfl,rfl⟩
theorem Opt1.bx {x:PT t} (h:Bx t T w K b x):Opt1 t T w K (pB b) (some x):=.inr ⟨b,x,rfl,rfl,h⟩
theorem Bx.all {x:PT t} (h:Bx t T w (Kx K n L) b x):Bx t T w (Kx K n []) b x:=h.less (List.nil_sublist _)
end
section
variable {ds:List Deferred} {N:Nat} {a:Act} {l:List (Nat × Value)} {w w0:World} {P:Program} {ops:Array Oper} {Q:Exit → Act → World → Prop} {rest:List Oper} {o:Oper} {Kont:Act → World → Prop} {d:Nat}
def ptrB (P:Program) (T:TypeId):Bool:=match P.underlying T with | some (.pointer _)=>true | _=>false
theorem d_A {T:TypeId} (ht:ptrB P T = true) (A:Option Addr):(Op.equal T (.pointer A) (.pointer .none)).run P w = .ok A.isNone w:=by
  unfold ptrB at ht
  split at ht
  · rename_i hu
    show (Op.equalIn (9999 + 1) T (.pointer A) (.pointer .none)).run P w = _
    rw [Op.equalIn]
    simp only [Sem.run_bind,run_underlying hu,Result.andThen_ok]
    cases A <;> rfl
  · cases ht
theorem d_8 (S:StD ds N a l) {T T':TypeId} {x y:Operand} {A:Addr} (ho:o.op = .binOp .eql T x y T') (ht:ptrB P T = true) (hd:o.dst = some d) (hN:Nat.blt d N = true)
    (hx:ev l x = some (.pointer (some A))) (hy:ev l y = some (.pointer .none)) (k:∀ a',StD ds N a' ((d,.bool false) :: l) → Kont a' w):o.wp P a w Kont Q:=by
  refine a_B S hd hN ?_ k
  simp [execOp,ho,S.eval hx,S.eval hy,eqGuard,binOp,d_A ht]
theorem d_9 (S:StD ds N a l) {T T':TypeId} {x y:Operand} (ho:o.op = .binOp .eql T x y T') (ht:ptrB P T = true) (hd:o.dst = some d) (hN:Nat.blt d N = true)
    (hx:ev l x = some (.pointer .none)) (hy:ev l y = some (.pointer .none)) (k:∀ a',StD ds N a' ((d,.bool true) :: l) → Kont a' w):o.wp P a w Kont Q:=by
  refine a_B S hd hN ?_ k
  simp [execOp,ho,S.eval hx,S.eval hy,eqGuard,binOp,d_A ht]
end
end Go.Proofs.Ytmcpcdmonglkjaa
namespace Go.Proofs.Ytmcpcdmonglkjaa
open Go.RowKit
def a_v (m:Nat):List Nat → Array Bool
  | []=>Array.replicate m false
  | i :: D=>(a_v m D).setIfInBounds i true
def An (P:Program) (l:List Oper) (Q:Exit → Act → World → Prop) (m k:Nat) (D:List Nat) (a:Act) (w:World):Prop:=wpAny P .any l.toArray Q k (a_v m D) a w
def d_V (P:Program) (l:List Oper) (Q:Exit → Act → World → Prop) (m k:Nat) (D:List Nat) (a:Act) (w:World) (i:Nat):Prop:=wpOp P l.toArray Q i (fun a' w'=>An P l Q m k (i :: D) a' w') a w
def AnForks (P:Program) (l:List Oper) (Q:Exit → Act → World → Prop) (m k:Nat) (D:List Nat) (a:Act) (w:World):List Nat → Prop
  | []=>True
  | i :: is=>d_V P l Q m k D a w i ∧ AnForks P l Q m k D a w is
theorem AnForks.get {P:Program} {l:List Oper} {Q:Exit → Act → World → Prop} {m k:Nat} {D:List Nat} {a:Act} {w:World}:∀ {is:List Nat},AnForks P l Q m k D a w is → ∀ i ∈ is,d_V P l Q m k D a w i
  | j :: is,h,i,hi=>by
    rcases List.mem_cons.1 hi with rfl | hi
    · exact h.1
    · exact AnForks.get h.2 i hi
def PanicOk (Q:Exit → Act → World → Prop):Prop:=∀ c (a a':Act) w,a.defers = a'.defers → Q (.panic c) a w → Q (.panic c) a' w
theorem PanicOk.put {Q:Exit → Act → World → Prop} (h:PanicOk Q):∀ c d v a w,Q (.panic c) (a.put d v) w → Q (.panic c) a w:=fun c d v a w=>h c _ _ w (by cases d <;> rfl)
theorem b_a {P:Program} {fn:Func} {R:Ending → World → Prop}:PanicOk (bodyPost P fn R):=fun _ _ _ _ hd h=>⟨hd ▸ h.1,h.2⟩
theorem b_b {K:Act → World → Prop} {Q:Exit → Act → World → Prop} (h:PanicOk Q):PanicOk (Exit.then K Q):=fun c a a' w hd hq=>h c a a' w hd hq
theorem b_x {id:Nat} {Q:Exit → Act → World → Prop} (h:PanicOk Q):PanicOk (Exit.inBlock id Q):=fun c a a' w hd hq=>h c a a' w hd hq
def a_4 (l:List Oper) (m:Nat):List Nat → List Nat → Bool
  | _,[]=>true
  | D,i :: is=>Region.free .any l.toArray (a_v m D) i && (Region.ready .any l.toArray (a_v m D)).contains i && a_4 l m (i :: D) is
section
variable {ds:List Deferred} {N:Nat} {a:Act} {l0 l1:List (Nat × Value)} {w:World} {P:Program} {l:List Oper} {Q:Exit → Act → World → Prop} {o:Oper} {m k i:Nat} {D:List Nat}
theorem a_S {id:Nat} (m:Nat) (hm:P.follows .mixedOrders = true) (hl:l.length = m) (hQ:PanicOk Q) (h:∀ w',Below w.heap.size w w' → PanicOk Q → An P l Q m m [] a w'):(Code.region id l.toArray true).wp P Q a w:=by
  subst hl
  refine wp_region_any hm ?_
  have:=h { w with drawn:=w.drawn + 1 } ⟨rfl,rfl,rfl,Nat.le_refl _,fun _ _=>rfl⟩ hQ
  simpa [An,a_v] using this
theorem a_C (hr:Region.ready .any l.toArray (a_v m D) = []) (h:Q .normal a w):An P l Q m k D a w:=by
  unfold An
  cases k with
  | zero=>exact ⟨hr,h⟩
  | succ k=>exact ⟨fun _=>h,fun i hi=>by rw [hr] at hi;cases hi⟩
theorem a_I {is:List Nat} (hr:Region.ready .any l.toArray (a_v m D) = is) (hne:is.isEmpty = false) (h:AnForks P l Q m k D a w is):An P l Q m (k + 1) D a w:=by
  unfold An
  refine ⟨fun he=>?_,fun i hi=>?_⟩
  · rw [hr] at he;subst he;cases hne
  · rw [hr] at hi
    exact h.get i hi
theorem a_q (ho:l[i]? = some o) (S:StD ds N a l0) (hg:gOk l.toArray l0 o = some true) (h:o.wp P a w (fun a' w'=>An P l Q m k (i :: D) a' w') Q):d_V P l Q m k D a w i:=by
  unfold d_V wpOp
  have ho':l.toArray[i]? = some o:=by simpa using ho
  simp only [ho']
  rw [if_pos (gOk.wanted S hg)]
  exact .inl h
theorem a_m (hr:Region.ready .any l.toArray (a_v m D) = [i]) (ho:l[i]? = some o) (S:StD ds N a l0) (hg:gOk l.toArray l0 o = some true) (h:o.wp P a w (fun a' w'=>An P l Q m k (i :: D) a' w') Q):An P l Q m (k + 1) D a w :=
  a_I hr rfl ⟨a_q ho S hg h,trivial⟩
theorem a_d (tys:List (TypeId × GT)) (ht:tysOk P tys = true) (hs:Region.noSelect l.toArray = true) (hQ:PanicOk Q):∀ (is:List Nat) {D:List Nat} {a:Act} {l0:List (Nat × Value)},StD ds N a l0 → a_4 l m D is = true → a_r tys l.toArray N (is.filterMap (l[·]?)) l0 = some l1 → (∀ a',StD ds N a' l1 → An P l Q m k (is.reverse ++ D) a' w) → An P l Q m (k + is.length) D a w
  | [],D,a,l0,S,_,hp,h=>by
    simp only [List.filterMap_nil,a_r,Option.some.injEq] at hp
    subst hp
    exact h a S
  | i :: is,D,a,l0,S,hc,hp,h=>by
    simp only [a_4,Bool.and_eq_true] at hc
    obtain ⟨⟨hf,hr⟩,hc⟩:=hc
    have hi:i ∈ Region.ready .any l.toArray (a_v m D):=by simpa using hr
    obtain ⟨_,o,ho,_⟩:=mem_ready.1 hi
    have ho':l[i]? = some o:=by simpa using ho
    rw [List.filterMap_cons_some ho'] at hp
    have h':∀ a',StD ds N a' l1 → An P l Q m k (is.reverse ++ (i :: D)) a' w:=fun a' S'=>by
      have:=h a' S'
      simpa using this
    have fin:∀ (v:Value) (l2:List (Nat × Value)),Yields P l.toArray o v a → StD ds N (a.put o.dst v) l2 → a_r tys l.toArray N (is.filterMap (l[·]?)) l2 = some l1 → An P l Q m (k + (is.length + 1)) D a w:=fun v l2 hy S2 hp2 =>
      wpAny_first ho (Region.noSelect_spec hs) (fun c a w=>hQ.put c o.dst v a w) (k + is.length) (a_v m D) a w (Region.free_spec ho hf) hi hy (a_d tys ht hs hQ is S2 hc hp2 h')
    unfold a_r at hp
    split at hp
    · rename_i d hg hd
      split at hp
      · rename_i v hv
        split at hp
        · rename_i hN
          exact fin v _ (.inl ⟨gOk.wanted S hg,fun w=>c_G S o tys ht hv⟩) (by rw [hd];exact S.put (by simpa [Nat.blt_eq] using hN) v) hp
        · cases hp
      · cases hp
    · rename_i d hg hd
      split at hp
      · rename_i hN
        exact fin undef _ (.inr ⟨gOk.wanted S hg,rfl⟩) (by rw [hd];exact S.put (by simpa [Nat.blt_eq] using hN) undef) hp
      · cases hp
    · rename_i hg hd
      exact fin undef _ (.inr ⟨gOk.wanted S hg,rfl⟩) (by rw [hd];exact S) hp
    · cases hp
end
inductive DeadS {α:Type}:Sem α → Prop
  | prog (k:Program → Sem α):(∀ p,DeadS (k p)) → DeadS (.program k)
  | halt (h:Halt):DeadS (.halt h)
  | choose (q:Question) (k:Nat → Sem α):(∀ n,DeadS (k n)) → DeadS (.choose q k)
inductive WlS {α:Type}:Sem α → Prop
  | pure (a:α):WlS (.pure a)
  | prog (k:Program → Sem α):(∀ p,WlS (k p)) → WlS (.program k)
  | dead (m:Sem α):DeadS m → WlS m
theorem DeadS.bind {α β:Type} {m:Sem α} (h:DeadS m) (f:α → Sem β):DeadS (m >>= f):=by
  induction h with
  | prog k _ ih=>exact .prog _ ih
  | halt h=>exact .halt h
  | choose q k _ ih=>exact .choose q _ ih
theorem WlS.bind {α β:Type} {m:Sem α} {f:α → Sem β} (h:WlS m) (hf:∀ a,WlS (f a)):WlS (m >>= f):=by
  induction h with
  | pure a=>exact hf a
  | prog k _ ih=>exact .prog _ ih
  | dead m hd=>exact .dead _ (hd.bind f)
theorem DeadS.run {α:Type} {m:Sem α} (h:DeadS m) (P:Program):∀ w x w1,m.run P w ≠ .ok x w1:=by
  induction h with
  | prog k _ ih=>intro w x w1;exact ih P w x w1
  | halt h=>intro w x w1 e;cases e
  | choose q k _ ih =>
    intro w x w1 e
    simp only [Sem.run] at e
    split at e
    · exact ih _ _ _ _ e
    · exact ih _ _ _ _ e
theorem WlS.run {α:Type} {m:Sem α} (h:WlS m) (P:Program):∀ w w' x w1,m.run P w = .ok x w1 → w1 = w ∧ m.run P w' = .ok x w':=by
  induction h with
  | pure a=>intro w w' x w1 e;simp only [Sem.run,Result.ok.injEq] at e ⊢;exact ⟨e.2.symm,e.1,trivial⟩
  | prog k _ ih=>intro w w' x w1 e;exact ih P w w' x w1 e
  | dead m hd=>intro w w' x w1 e;exact absurd e (hd.run P w x w1)
theorem WlS.program:WlS Go.program:=.prog _ fun p=>.pure p
theorem DeadS.wbind {α β:Type} {m:Sem α} {f:α → Sem β} (h:WlS m) (hf:∀ a,DeadS (f a)):DeadS (m >>= f):=by
  induction h with
  | pure a=>exact hf a
  | prog k _ ih=>exact .prog _ ih
  | dead m hd=>exact hd.bind f
theorem DeadS.bounds {α:Type} (x y:Int) (s:Bool) (c:BoundsCode):DeadS (Go.runtimePanic (.bounds x y s c):Sem α):=by
  unfold Go.runtimePanic
  exact DeadS.wbind WlS.program fun p=>.halt _
theorem DeadS.boundsPanic {α:Type} (k:IntKind) (x y:Int) (c:BoundsCode):DeadS (Go.boundsPanic k x y c:Sem α):=by
  unfold Go.boundsPanic
  split
  · exact .choose _ _ fun n=>DeadS.bounds _ _ _ _
  · exact DeadS.bounds _ _ _ _
theorem WlS.typeInfo (t:TypeId):WlS (Go.typeInfo t):=by
  unfold Go.typeInfo
  refine WlS.bind WlS.program fun p=>?_
  split
  · exact .pure _
  · exact .dead _ (.halt _)
theorem WlS.underlying (t:TypeId):WlS (Go.underlying t):=by
  unfold Go.underlying
  refine WlS.bind WlS.program fun p=>?_
  split
  · exact .pure _
  · exact .dead _ (.halt _)
theorem WlS.sizeOf (t:TypeId):WlS (Go.sizeOf t):=WlS.bind (WlS.typeInfo t) fun _=>.pure _
theorem WlS.asIntOf (v:Value):WlS (Go.asIntOf v):=by
  unfold Go.asIntOf
  split
  · exact .pure _
  · exact .dead _ (.halt _)
  · exact .dead _ (.halt _)
theorem WlS.sliceBound (x:Value) (y:Nat) (c:BoundsCode):WlS (Instr.sliceBound x y c):=by
  unfold Instr.sliceBound
  refine WlS.bind (WlS.asIntOf x) fun p=>?_
  obtain ⟨k,i⟩:=p
  simp only
  split
  · exact .pure _
  · exact .dead _ (DeadS.boundsPanic _ _ _ _)
theorem DeadS.nilDeref {α:Type}:DeadS (Go.runtimePanic .nilDeref:Sem α):=by
  unfold Go.runtimePanic
  exact DeadS.wbind WlS.program fun p=>.halt _
theorem WlS.sureAddr (v:Value):WlS (Instr.sureAddr v):=by
  unfold Instr.sureAddr
  split
  · exact .pure _
  · exact .dead _ (.halt _)
theorem WlS.asAddr (v:Value):WlS (Go.asAddr v):=by
  unfold Go.asAddr
  split
  · exact .pure _
  · exact .dead _ DeadS.nilDeref
  · exact .dead _ (.halt _)
theorem WlS.sliceBounds (b:Bool) (len cap:Nat) (lo hi mx:Option Value):WlS (Instr.sliceBounds b len cap lo hi mx):=by
  unfold Instr.sliceBounds
  dsimp only
  repeat' (first | exact WlS.pure _ | exact WlS.dead _ (.halt _) | exact WlS.sliceBound _ _ _ | refine WlS.bind ?_ fun _=>?_ | split)
theorem WlS.slice (t:TypeId) (x:Value) (lo hi mx:Option Value):WlS (Instr.slice t x lo hi mx):=by
  unfold Instr.slice
  dsimp only
  repeat' (first | exact WlS.pure _ | exact WlS.dead _ (.halt _) | exact WlS.sliceBounds _ _ _ _ _ _ | exact WlS.underlying _ | exact WlS.sizeOf _ | exact WlS.asAddr _ | refine WlS.bind ?_ fun _=>?_ | split)
theorem WlS.sliceAt (t:TypeId) (x:Value) (lo hi mx:Option Value):WlS (Instr.sliceAt t x lo hi mx):=by
  unfold Instr.sliceAt
  dsimp only
  repeat' (first | exact WlS.pure _ | exact WlS.dead _ (.halt _) | exact WlS.slice _ _ _ _ _ | exact WlS.sliceBounds _ _ _ _ _ _ | exact WlS.underlying _ | exact WlS.sizeOf _ | exact WlS.sureAddr _ | refine WlS.bind ?_ fun _=>?_ | split)
theorem WlS.indexAt (t:TypeId) (x i:Value):WlS (Instr.indexAt t x i):=by
  unfold Instr.indexAt
  dsimp only
  repeat' (first | exact WlS.pure _ | exact WlS.dead _ (.halt _) | exact WlS.dead _ (DeadS.boundsPanic _ _ _ _) | exact WlS.asIntOf _ | exact WlS.underlying _ | exact WlS.sizeOf _ | exact WlS.sureAddr _ | refine WlS.bind ?_ fun _=>?_ | split)
def wlB:Op → Bool
  | .slice _ _ _ _ _=>true
  | .indexAddr _ _ _=>true
  | _=>false
theorem wlV {P:Program} {m:Sem Value} (h:WlS m) {w w1:World} {n:Next} (hr:(m >>= fun v=>(Pure.pure (Next.value v):Sem Next)).run P w = .ok n w1):w1 = w ∧ (∃ v,n = .value v) ∧ ∀ w',(m >>= fun v=>(Pure.pure (Next.value v):Sem Next)).run P w' = .ok n w':=by
  have hw:=WlS.bind h (f:=fun v=>(Pure.pure (Next.value v):Sem Next)) fun v=>.pure _
  refine ⟨(hw.run P w w n w1 hr).1,?_,fun w'=>(hw.run P w w' n w1 hr).2⟩
  rw [Sem.run_bind] at hr
  cases hq:m.run P w with
  | ok v w2 =>
    rw [hq] at hr
    exact ⟨v,by
      have:(Result.ok (Next.value v) w2:Result Next) = .ok n w1:=hr
      injection this with h1 _;exact h1.symm⟩
  | halt x w2=>rw [hq] at hr;cases hr
theorem wl_run {P:Program} {o:Oper} {ρ:Operand → Value} (h:wlB o.op = true) {w w1:World} {n:Next} (hr:(execOp ρ o).run P w = .ok n w1):w1 = w ∧ (∃ v,n = .value v) ∧ ∀ w',(execOp ρ o).run P w' = .ok n w':=by
  unfold execOp at hr ⊢
  cases hop:o.op <;> rw [hop] at h <;> first | (exfalso;simp [wlB] at h;done) | skip
  all_goals
    rw [hop] at hr
    simp only at hr ⊢
  · exact wlV (WlS.sliceAt _ _ _ _ _) hr
  · exact wlV (WlS.indexAt _ _ _) hr
section
variable {ds:List Deferred} {N:Nat} {a:Act} {l0 l1:List (Nat × Value)} {w:World} {P:Program} {l:List Oper} {Q:Exit → Act → World → Prop} {o:Oper} {m k i:Nat} {D:List Nat}
theorem a_7 (hs:Region.noSelect l.toArray = true) (hQ:PanicOk Q) (hc:a_4 l m D [i] = true) (ho:l[i]? = some o) (hwl:wlB o.op = true) (S:StD ds N a l0) (hg:gOk l.toArray l0 o = some true)
    (h:o.wp P a w (fun a' w'=>w' = w → An P l Q m k (i :: D) a' w') (fun _ _ _=>False)):An P l Q m (k + 1) D a w:=by
  simp only [a_4,Bool.and_eq_true] at hc
  obtain ⟨⟨hf,hr⟩,_⟩:=hc
  have hi:i ∈ Region.ready .any l.toArray (a_v m D):=by simpa using hr
  have ho':l.toArray[i]? = some o:=by simpa using ho
  unfold Oper.wp at h
  cases hrun:(execOp a.eval o).run P w with
  | halt x w' =>
    rw [hrun] at h
    cases x <;> simp only [Oper.upon] at h
  | ok n w' =>
    obtain ⟨rfl,⟨v,rfl⟩,hall⟩:=wl_run hwl hrun
    rw [hrun] at h
    simp only [Oper.upon] at h
    exact wpAny_first ho' (Region.noSelect_spec hs) (fun c a w=>hQ.put c o.dst v a w) k (a_v m D) a w' (Region.free_spec ho' hf) hi (.inl ⟨gOk.wanted S hg,hall⟩) (h trivial)
end
end Go.Proofs.Ytmcpcdmonglkjaa
namespace Go.Proofs.Ytmcpcdmonglkjaa
open Go.RowKit
def SetObj (kd:IntKind) (o:Obj) (xs:List Int):Prop:=∃ es c,o = .map es c ∧ es.toList.map (fun e=>(e.key,e.val)) = xs.map fun x=>(.int kd x,.bool true)
def Mp (kd:IntKind) (w:World) (b:Nat) (xs:List Int):Prop:=∃ o,SetObj kd o xs ∧ Ox o w b
def insK (x:Int) (xs:List Int):List Int:=if x ∈ xs then xs else xs ++ [x]
section
variable {w0 w w' A B:World} {L L' LO P Q:List (Option Nat)} {K:Nat → Prop} {n b d i:Nat} {kd:IntKind} {v v':Value} {o:Option Nat} {xs:List Int}
theorem Mp.lt (h:Mp kd w b xs):b < w.heap.size:=by obtain ⟨o,_,h⟩:=h;exact h.lt
theorem Mp.step (h:Mp kd w b xs) (hb:Below w.heap.size w w'):Mp kd w' b xs:=by obtain ⟨o,hs,h⟩:=h;exact ⟨o,hs,h.step hb⟩
theorem Mp.box (h:Mp kd w b xs) (hb:NewB w w' i):Mp kd w' b xs:=h.step hb.below
theorem Mp.newO (h:Mp kd w b xs) (hN:NewO w w' o):Mp kd w' b xs:=h.step hN.below
theorem Mp.newW (h:Mp kd w b xs) (hN:Wd w w' P):Mp kd w' b xs:=h.step hN.below
theorem Mp.wrote (h:Mp kd w b xs) (hw:Wrote i w w') (hm:True) (hne:b ≠ i):Mp kd w' b xs:=by obtain ⟨o,hs,h⟩:=h;exact ⟨o,hs,h.wrote hw hm hne⟩
theorem Mp.apd (h:Mp kd w b xs) (W:Wd w0 w L) (ha:Apd w w' v v') (hi:L[i]? = some v.ownBlock) {j:Nat} (hj:L[j]? = some (some b)) (hji:j ≠ i):Mp kd w' b xs:=by obtain ⟨o,hs,h⟩:=h;exact ⟨o,hs,h.apd W ha hi hj hji⟩
theorem Mp.more (h:Mp kd w b xs):Mp kd w b xs:=h
theorem Mp.lessAt (h:Mp kd w b xs) (i:Nat):Mp kd w b xs:=h
theorem Mp.drop (h:Mp kd w b xs) (i:Nat):Mp kd w b xs:=h
theorem Mp.nc (h:Mp kd A b xs) (hn:Nc d A B) (hb:b ≠ d):Mp kd B b xs:=by obtain ⟨o,hs,h⟩:=h;exact ⟨o,hs,h.nc hn hb⟩
theorem Mp.mk_ {m:Nat} (h:Mp kd w b xs) (hm:Mk m L w w') (hb:some b ∈ L):Mp kd w' b xs:=by obtain ⟨o,hs,h⟩:=h;exact ⟨o,hs,h.mk_ hm hb⟩
theorem Mp.gs {I:List Nat} {s c:Nat} {F:GW → Prop} {g g':GW} (h:Mp kd g.2 c xs) (hg:Gs w0 I L s b F g g') (hne:c ≠ b):Mp kd g'.2 c xs:=by obtain ⟨o,hs,h⟩:=h;exact ⟨o,hs,h.gs hg hne⟩
theorem Mp.sto {t:GT} {T:TypeId} {g:Nat} {xn:PT t} {K':Nat → Prop} (h:Mp kd w b xs) (hs:Sto t T K' g xn w w') (hne:b ≠ g):Mp kd w' b xs:=by obtain ⟨o,hq,h⟩:=h;exact ⟨o,hq,h.sto hs hne⟩
theorem Mp.yst (Bs:List (Option Nat)) (h:Mp kd A b xs) (hy:Yst n A LO B L') (W:Wd w0 A (Bs ++ LO)) (hb:some b ∈ Bs):Mp kd B b xs:=by obtain ⟨o,hs,h⟩:=h;exact ⟨o,hs,h.yst Bs hy W hb⟩
theorem Mp.yfr (LO:List (Option Nat)) (h:Mp kd A b xs) (hy:Yst n A P B Q) (W:Wd w0 A (P ++ LO)) (hb:some b ∈ LO):Mp kd B b xs:=by obtain ⟨o,hs,h⟩:=h;exact ⟨o,hs,h.yfr LO hy W hb⟩
end
structure SetTy (P:Program) (T Tm Tk Tv:TypeId) (kd:IntKind):Prop where
  st:∃ fs f,P.underlying T = some (.struct fs) ∧ fs.toList = [f] ∧ f.type = Tm ∧ f.offset = 0
  inf:∃ i,P.info? T = some i ∧ i.size = 1 ∧ ∃ cs,i.zero = some (.agg cs) ∧ cs.toList = [.map none]
  infm:∃ i,P.info? Tm = some i ∧ i.size = 1
  mp:P.underlying Tm = some (.map Tk Tv)
  key:P.underlying Tk = some (.int kd)
  inv:∃ i,P.info? Tv = some i ∧ i.zero = some (.bool false)
def oneF (fs:List Field) (Tm:TypeId):Bool:=match fs with | [f]=>Nat.beq f.type Tm && Nat.beq f.offset 0 | _=>false
def nilM (z:Option Value):Bool:=match z with | some (.agg cs)=>(match cs.toList with | [.map none]=>true | _=>false) | _=>false
def isStr (d:Option TypeDesc) (Tm:TypeId):Bool:=match d with | some (.struct fs)=>oneF fs.toList Tm | _=>false
def isMp (d:Option TypeDesc) (Tk Tv:TypeId):Bool:=match d with | some (.map k v)=>Nat.beq k Tk && Nat.beq v Tv | _=>false
def isIn (d:Option TypeDesc) (kd:IntKind):Bool:=match d with | some (.int k)=>decide (k = kd) | _=>false
def fzB (z:Option Value):Bool:=match z with | some (.bool false)=>true | _=>false
def setTyB (P:Program) (T Tm Tk Tv:TypeId) (kd:IntKind):Bool :=
  isStr (P.underlying T) Tm && (P.info? T).any (fun i=>Nat.beq i.size 1 && nilM i.zero) && (P.info? Tm).any (fun i=>Nat.beq i.size 1) && isMp (P.underlying Tm) Tk Tv && isIn (P.underlying Tk) kd && (P.info? Tv).any (fun i=>fzB i.zero)
theorem anyS {α:Type} {x:Option α} {p:α → Bool} (h:x.any p = true):∃ y,x = some y ∧ p y = true:=by
  cases x with
  | none=>cases h
  | some y=>exact ⟨y,rfl,h⟩
theorem SetTy.of {P:Program} {T Tm Tk Tv:TypeId} {kd:IntKind} (h:setTyB P T Tm Tk Tv kd = true):SetTy P T Tm Tk Tv kd:=by
  simp only [setTyB,Bool.and_eq_true] at h
  obtain ⟨⟨⟨⟨⟨h1,h2⟩,h3⟩,h4⟩,h5⟩,h6⟩:=h
  refine ⟨?_,?_,?_,?_,?_,?_⟩
  · unfold isStr at h1
    split at h1
    · rename_i fs hu
      unfold oneF at h1
      split at h1
      · rename_i f hf
        simp only [Bool.and_eq_true,Nat.beq_eq] at h1
        exact ⟨fs,f,hu,hf,h1.1,h1.2⟩
      · cases h1
    · cases h1
  · obtain ⟨i,hi,h2⟩:=anyS h2
    simp only [Bool.and_eq_true,Nat.beq_eq] at h2
    refine ⟨i,hi,h2.1,?_⟩
    have h:=h2.2
    unfold nilM at h
    split at h
    · rename_i cs hz
      split at h
      · rename_i hc
        exact ⟨cs,hz,hc⟩
      · cases h
    · cases h
  · obtain ⟨i,hi,h3⟩:=anyS h3
    exact ⟨i,hi,by simpa [Nat.beq_eq] using h3⟩
  · unfold isMp at h4
    split at h4
    · rename_i k v hu
      simp only [Bool.and_eq_true,Nat.beq_eq] at h4
      rw [hu,h4.1,h4.2]
    · cases h4
  · unfold isIn at h5
    split at h5
    · rename_i k hu
      rw [hu,of_decide_eq_true h5]
    · cases h5
  · obtain ⟨i,hi,h6⟩:=anyS h6
    unfold fzB at h6
    split at h6
    · rename_i hz
      exact ⟨i,hi,hz⟩
    · cases h6
section
variable {ds:List Deferred} {N:Nat} {a:Act} {l:List (Nat × Value)} {w w0:World} {P:Program} {ops:Array Oper} {Q:Exit → Act → World → Prop} {rest:List Oper} {o:Oper} {Kont:Act → World → Prop} {d:Nat} {T Tm Tk Tv:TypeId} {kd:IntKind}
theorem b_t {α:Type} {xs:Array α} {l:List α} (h:xs.toList = l):xs = l.toArray:=by rw [← h]
theorem c_r (S:StD ds N a l) (h:SetTy P T Tm Tk Tv kd) (ho:o.op = .alloc T) (hd:o.dst = some d) (hN:Nat.blt d N = true)
    (k:∀ a' w' b,NewB w w' b → Ox (.cells #[.map none] T (0,0)) w' b → StD ds N a' ((d,.pointer (some ⟨b,0,.none⟩)) :: l) → Kont a' w'):o.wp P a w Kont Q:=by
  obtain ⟨i,hi,hs,cs,hz,hc⟩:=h.inf
  refine a_B S (v:=.pointer (some ⟨w.heap.size,0,.none⟩)) (w':=w.alloc (.cells #[.map none] T)) hd hN ?_ fun a'=>k a' _ w.heap.size (a_P w _) ⟨heap_alloc_new w _,trivial⟩
  rw [b_t hc] at hz
  simp [execOp,ho,Instr.alloc,zeroValue,typeInfo,hi,hz,newVar,newRow,Value.cells]
theorem e_a (S:StD ds N a l) {r:Option Nat} {x:Operand} (ho:o.op = .box T x) (hd:o.dst = some d) (hN:Nat.blt d N = true) (hx:ev l x = some (.agg #[.map r]))
    (k:∀ a' w' b,NewB w w' b → Ox (.cells #[.map r] T (0,0)) w' b → StD ds N a' ((d,.pointer (some ⟨b,0,.none⟩)) :: l) → Kont a' w'):o.wp P a w Kont Q:=by
  refine a_B S (v:=.pointer (some ⟨w.heap.size,0,.none⟩)) (w':=w.alloc (.cells #[.map r] T)) hd hN ?_ fun a'=>k a' _ w.heap.size (a_P w _) ⟨heap_alloc_new w _,trivial⟩
  simp [execOp,ho,S.eval hx,Instr.box,newVar,newRow,Value.cells]
theorem e_b (S:StD ds N a l) (ho:o.op = .makeMap Tm .none) (hd:o.dst = some d) (hN:Nat.blt d N = true)
    (k:∀ a' w' b,NewB w w' b → Mp kd w' b [] → StD ds N a' ((d,.map (some b)) :: l) → Kont a' w'):o.wp P a w Kont Q:=by
  refine a_B S (v:=.map (some w.heap.size)) (w':=w.alloc (.map #[] 0)) hd hN ?_ fun a'=>k a' _ w.heap.size (a_P w _) ⟨_,⟨#[],0,rfl,rfl⟩,heap_alloc_new w _,trivial⟩
  simp [execOp,ho,Instr.makeMap,newObj]
  rfl
theorem d_B (S:StD ds N a l) (h:SetTy P T Tm Tk Tv kd) {r:Option Nat} {x:Operand} (ho:o.op = .build T #[(0,x)]) (hd:o.dst = some d) (hN:Nat.blt d N = true) (hx:ev l x = some (.map r))
    (k:∀ a',StD ds N a' ((d,.agg #[.map r]) :: l) → Kont a' w):o.wp P a w Kont Q:=by
  obtain ⟨i,hi,hs,cs,hz,hc⟩:=h.inf
  obtain ⟨fs,f,hu,hf,ht,hof⟩:=h.st
  obtain ⟨im,him,hsm⟩:=h.infm
  rw [b_t hc] at hz
  rw [b_t hf] at hu
  refine a_B S hd hN ?_ k
  simp [execOp,ho,S.eval hx,Instr.build,zeroValue,typeInfo,hi,hz,run_underlying hu,ht,hof,sizeOf,him,hsm,Instr.fill,Value.cells]
theorem a_Z (S:StD ds N a l) (h:SetTy P T Tm Tk Tv kd) {ad:Operand} {r:Option Nat} {b:Nat} (ho:o.op = .load T ad) (hd:o.dst = some d) (hN:Nat.blt d N = true) (ha:ev l ad = some (.pointer (some ⟨b,0,.none⟩)))
    (hO:Ox (.cells #[.map r] T (0,0)) w b) (k:∀ a',StD ds N a' ((d,.agg #[.map r]) :: l) → Kont a' w):o.wp P a w Kont Q:=by
  obtain ⟨i,hi,hs,_⟩:=h.inf
  obtain ⟨fs,f,hu,_⟩:=h.st
  have hc:w.cell? ⟨b,0,.none⟩ = some (.map r):=by unfold World.cell?;rw [hO.1];rfl
  refine a_B S hd hN ?_ k
  simp [execOp,ho,S.eval ha,Instr.loadAt,Instr.sureAddr,loadVar,isAgg,run_underlying hu,sizeOf,typeInfo,hi,hs,hc,loadCells,loadCellsFrom,Addr.add]
theorem d_C (S:StD ds N a l) (h:SetTy P T Tm Tk Tv kd) {x:Operand} {p:Addr} (ho:o.op = .fieldAddr T x 0) (hd:o.dst = some d) (hN:Nat.blt d N = true) (ha:ev l x = some (.pointer (some p)))
    (k:∀ a',StD ds N a' ((d,.pointer (some p)) :: l) → Kont a' w):o.wp P a w Kont Q:=by
  obtain ⟨fs,f,hu,hf,ht,hof⟩:=h.st
  obtain ⟨im,him,hsm⟩:=h.infm
  rw [b_t hf] at hu
  refine a_B S hd hN ?_ k
  simp [execOp,ho,S.eval ha,Instr.fieldAt,run_underlying hu,Instr.sureAddr,fieldPlace,sizeOf,typeInfo,ht,hof,him,hsm,Addr.add]
theorem c_s (S:StD ds N a l) (h:SetTy P T Tm Tk Tv kd) {ad:Operand} {r:Option Nat} {b:Nat} (ho:o.op = .load Tm ad) (hd:o.dst = some d) (hN:Nat.blt d N = true) (ha:ev l ad = some (.pointer (some ⟨b,0,.none⟩)))
    (hO:Ox (.cells #[.map r] T (0,0)) w b) (k:∀ a',StD ds N a' ((d,.map r) :: l) → Kont a' w):o.wp P a w Kont Q:=by
  have hc:w.cell? ⟨b,0,.none⟩ = some (.map r):=by unfold World.cell?;rw [hO.1];rfl
  refine a_B S hd hN ?_ k
  simp [execOp,ho,S.eval ha,Instr.loadAt,Instr.sureAddr,loadVar,isAgg,run_underlying h.mp,hc]
theorem c_t (S:StD ds N a l) (h:SetTy P T Tm Tk Tv kd) {ad x:Operand} {r r':Option Nat} {b:Nat} (ho:o.op = .store T ad x) (hd:o.dst = .none) (ha:ev l ad = some (.pointer (some ⟨b,0,.none⟩))) (hx:ev l x = some (.agg #[.map r]))
    (hO:Ox (.cells #[.map r'] T (0,0)) w b) (k:∀ w',Wrote b w w' → Ox (.cells #[.map r] T (0,0)) w' b → Kont a w'):o.wp P a w Kont Q:=by
  obtain ⟨i,hi,hs,_⟩:=h.inf
  have hc:w.cell? ⟨b,0,.none⟩ = some (.map r'):=by unfold World.cell?;rw [hO.1];rfl
  have hfz:w.frozen? ⟨b,0,.none⟩ = false:=by unfold World.frozen?;rw [hO.1];rfl
  have hst:(store ⟨b,0,.none⟩ (.map r)).run P w = .ok () (w.setCell ⟨b,0,.none⟩ (.map r)):=by
    show Sem.run P (.store .plain _ (.map r) (.pure ())) w = _
    simp [Sem.run,hc,hfz]
  have hrun:(execOp a.eval o).run P w = .ok .skip (w.setCell ⟨b,0,.none⟩ (.map r)):=by
    simp [execOp,ho,S.eval ha,S.eval hx,Instr.storeAt,Instr.sureAddr,storeVar,sizeOf,typeInfo,hi,hs,Value.cells,storeCells,Addr.add,hst]
  have hb:=hO.lt
  unfold Oper.wp
  rw [hrun]
  simp only [Oper.upon,hd]
  have hg:w.heap[b] = .cells #[.map r'] T (0,0):=by
    have:=hO.1
    rw [Array.getElem?_eq_getElem hb] at this
    exact Option.some.inj this
  refine k _ ⟨rfl,rfl,rfl,by simp [World.setCell],fun q hq=>?_⟩ ⟨?_,trivial⟩
  · simp [World.setCell,Array.getElem?_modify,Ne.symm hq]
  · simp [World.setCell,Array.getElem?_modify,hb,hg,Array.getElem_modify]
theorem b_6 (kd:IntKind) (z:Int):∀ (es:List MapEntry) (xs:List Int) (i:Nat),es.map (fun e=>(e.key,e.val)) = xs.map (fun x=>(Value.int kd x,Value.bool true)) →
    (z ∈ xs ∧ ∃ j,i ≤ j ∧ Instr.findNow (.int kd) (.int kd z) es i = some (some (j,.bool true)) ∧ ∃ e,es[j - i]? = some e ∧ e.key = .int kd z ∧ e.val = .bool true) ∨ (z ∉ xs ∧ Instr.findNow (.int kd) (.int kd z) es i = some .none)
  | [],[],i,_=>.inr ⟨by simp,rfl⟩
  | [],x :: xs,i,h=>by simp at h
  | e :: es,[],i,h=>by simp at h
  | e :: es,x :: xs,i,h=>by
    simp only [List.map_cons,List.cons.injEq,Prod.mk.injEq] at h
    obtain ⟨⟨hk,hv⟩,h⟩:=h
    by_cases hz:z = x
    · subst hz
      refine .inl ⟨by simp,i,Nat.le_refl _,?_,e,by simp,hk,hv⟩
      simp [Instr.findNow,Instr.sameNow,hk,hv]
    · have hs:Instr.sameNow (.int kd) (.int kd z) e.key = some false:=by rw [hk];simp [Instr.sameNow,hz]
      have hf:Instr.findNow (.int kd) (.int kd z) (e :: es) i = Instr.findNow (.int kd) (.int kd z) es (i + 1):=by
        rw [Instr.findNow,hs]
      rcases b_6 kd z es xs (i + 1) h with ⟨h1,j,hj,h2,e',h3,h4,h5⟩ | ⟨h1,h2⟩
      · refine .inl ⟨by simp [h1],j,by omega,hf.trans h2,e',?_,h4,h5⟩
        rw [show j - i = (j - (i + 1)) + 1 by omega]
        simpa using h3
      · exact .inr ⟨by simp [hz,h1],hf.trans h2⟩
theorem a_8 (e:Bool) (hk:P.underlying Tk = some (.int kd)) (z:Int):(Instr.checkKey e 10000 Tk (.int kd z)).run P w = .ok () w:=by
  show (Instr.checkKey e (9999 + 1) Tk (.int kd z)).run P w = _
  rw [Instr.checkKey]
  simp [run_underlying hk]
theorem d_k (S:StD ds N a l) (h:SetTy P T Tm Tk Tv kd) {x ix:Operand} {b:Nat} {z:Int} {xs:List Int} (ho:o.op = .lookup Tm x ix false) (hd:o.dst = some d) (hN:Nat.blt d N = true) (hx:ev l x = some (.map (some b))) (hi:ev l ix = some (.int kd z))
    (M:Mp kd w b xs) (k:∀ a',StD ds N a' ((d,.bool (decide (z ∈ xs))) :: l) → Kont a' w):o.wp P a w Kont Q:=by
  obtain ⟨ob,⟨es,c,rfl,hes⟩,hO⟩:=M
  obtain ⟨iv,hiv,hzv⟩:=h.inv
  have hg:(getObj b).run P w = .ok (.map es c) w:=by show Sem.run P (.getObj b .pure) w = _;simp [Sem.run,hO.1]
  refine a_B S hd hN ?_ k
  rcases b_6 kd z es.toList xs 0 hes with ⟨h1,j,_,h2,_⟩ | ⟨h1,h2⟩
  · simp [execOp,ho,S.eval hx,S.eval hi,Instr.lookup,run_underlying h.mp,hg,a_8 _ h.key,Instr.findKey,run_underlying h.key,h2,h1]
  · simp [execOp,ho,S.eval hx,S.eval hi,Instr.lookup,run_underlying h.mp,hg,a_8 _ h.key,Instr.findKey,run_underlying h.key,h2,h1,zeroValue,typeInfo,hiv,hzv]
theorem c_v (S:StD ds N a l) (h:SetTy P T Tm Tk Tv kd) {x ix y:Operand} {b:Nat} {z:Int} {xs:List Int} (ho:o.op = .mapUpdate Tm x ix y) (hd:o.dst = .none) (hx:ev l x = some (.map (some b))) (hi:ev l ix = some (.int kd z)) (hy:ev l y = some (.bool true))
    (M:Mp kd w b xs) (k:∀ w',Wrote b w w' → Mp kd w' b (insK z xs) → Kont a w'):o.wp P a w Kont Q:=by
  obtain ⟨ob,⟨es,c,rfl,hes⟩,hO⟩:=M
  have hb:=hO.lt
  have hg:(getObj b).run P w = .ok (.map es c) w:=by show Sem.run P (.getObj b .pure) w = _;simp [Sem.run,hO.1]
  have hset:∀ ob:Obj,(setObj b ob).run P w = .ok () { w with heap:=w.heap.setIfInBounds b ob }:=fun ob=>by show Sem.run P (.setObj b ob (.pure ())) w = _;simp [Sem.run,hO.1]
  have fin:∀ ob:Obj,SetObj kd ob (insK z xs) → (execOp a.eval o).run P w = .ok .skip { w with heap:=w.heap.setIfInBounds b ob } → o.wp P a w Kont Q:=fun ob hs hr=>by
    unfold Oper.wp
    rw [hr]
    simp only [Oper.upon,hd]
    refine k _ ⟨rfl,rfl,rfl,by simp,fun q hq=>by simp [Array.getElem?_setIfInBounds_ne (Ne.symm hq)]⟩ ⟨ob,hs,?_,trivial⟩
    simp [hb]
  rcases b_6 kd z es.toList xs 0 hes with ⟨h1,j,_,h2,e,h3,h4,h5⟩ | ⟨h1,h2⟩
  · refine fin (.map (es.modify j fun e=>{ e with key:=.int kd z,val:=.bool true }) c) ⟨_,_,rfl,?_⟩ ?_
    · unfold insK
      rw [if_pos h1,← hes]
      refine List.ext_getElem? fun q=>?_
      simp only [List.getElem?_map,Array.getElem?_toList,Array.getElem?_modify]
      by_cases hq:j = q
      · subst hq
        have h3':es[j]? = some e:=by simpa using h3
        simp [h3',h4,h5]
      · simp [hq]
    · have h3':es[j]? = some e:=by simpa using h3
      simp [execOp,ho,S.eval hx,S.eval hi,S.eval hy,Instr.mapUpdate,run_underlying h.mp,hg,a_8 _ h.key,Instr.findKey,run_underlying h.key,h2,h3',h4,Instr.keyThatStays,Instr.sameBits,hset]
  · refine fin (.map (es.push { key:=.int kd z,val:=.bool true,born:=c }) (c + 1)) ⟨_,_,rfl,?_⟩ ?_
    · unfold insK
      rw [if_neg h1]
      simp [hes]
    · simp [execOp,ho,S.eval hx,S.eval hi,S.eval hy,Instr.mapUpdate,run_underlying h.mp,hg,a_8 _ h.key,Instr.findKey,run_underlying h.key,h2,hset]
theorem d_D (S:StD ds N a l) (h:SetTy P T Tm Tk Tv kd) {s b:Nat} {r:Option Nat} (hl:lk l s = some (.pointer (some ⟨b,0,.none⟩))) (hO:Ox (.cells #[.map r] T (0,0)) w b):d_w P a w (.cell s T) (.agg #[.map r]):=by
  obtain ⟨i,hi,hs,_⟩:=h.inf
  obtain ⟨fs,f,hu,_⟩:=h.st
  have hc:w.cell? ⟨b,0,.none⟩ = some (.map r):=by unfold World.cell?;rw [hO.1];rfl
  exact ⟨⟨b,0,.none⟩,by simp [S.at_ s _ hl],by simp [loadVar,isAgg,run_underlying hu,sizeOf,typeInfo,hi,hs,hc,loadCells,loadCellsFrom,Addr.add]⟩
end
end Go.Proofs.Ytmcpcdmonglkjaa
namespace Go.Proofs.Ytmcpcdmonglkjaa
open Go.RowKit Go.ChangeShapes
abbrev Kw (K:Nat → Prop) (w:World) (L:List (Option Nat)):Nat → Prop:=Kx K w.heap.size L
abbrev TA:Type:=Sl Int × Int × Int
abbrev TB:Type:=Int × Int × Sl Int × Int
section
variable {dd:List Deferred} {N:Nat} {a:Act} {l:List (Nat × Value)} {w w0:World} {P:Program} {ops:Array Oper} {Q:Exit → Act → World → Prop} {rest:List Oper} {o:Oper} {Kont:Act → World → Prop} {d:Nat} {K:Nat → Prop} {n:Nat} {L:List (Option Nat)}
theorem StD.pt (S:StD dd N a l) (d:Nat) (v:Value) (h:Nat.blt d N = true):StD dd N (a.put (some d) v) ((d,v) :: l):=S.put (by simpa using h) v
theorem RPost.o1 {tys:List (TypeId × GT)} (ht:tysOk P tys = true) {R:World → World → Prop} {f:Value → World → Prop} {A a0:Act} {l0:List (Nat × Value)} {v:Value} (S:StD dd N A l) (S0:StD dd N a0 l0) (hd:o.dst = some d) (h:(a_r tys ops N [o] l).bind (fun q=>lk q d) = some v) (hf:f v w) (hb:R w w:=by exact Below.refl _ _) :
    FillE w [] A (fun B=>wpList P ops (b_R R o.dst f a0.defers w Q) [o] B w):=RPost.one S tys ht hd h S0.defers hf hb
def Rv (e:GT) (w:World) (K:Nat → Prop) (v:Value) (xs:Sl (PT e)):Prop :=
  ∃ A m cu ds,v = .slice A m cu ∧ xs.xs.length = m ∧ RepCs (.arr xs.xs.length e) w K ds xs.xs ∧ (xs.xs = [] ∨ ∃ b off,A = some ⟨b,off,.none⟩ ∧ b < w.heap.size ∧ ∀ j u,ds[j]? = some u → w.cell? ⟨b,off + j,.none⟩ = some u) ∧ RepV (.sl e) w (fun _=>True) v xs
theorem Rv.arg {e:GT} {v:Value} {xs:Sl (PT e)} (h:Rv e w K v xs):Rv e w (Kx K w.heap.size []) v xs:=by
  obtain ⟨A,m,cu,ds,h1,h2,h3,h4,h5⟩:=h
  exact ⟨A,m,cu,ds,h1,h2,h3.keep (Keeps.refl _ _) fun _ _ h=>⟨.inl h,fun h=>(List.not_mem_nil h).elim⟩,h4,h5⟩
theorem Rv.box {e:GT} {w':World} {b:Nat} {v:Value} {xs:Sl (PT e)} (h:Rv e w (Kx K n L) v xs) (hb:NewB w w' b):Rv e w' (Kx K n (some b :: L)) v xs:=by
  obtain ⟨A,m,cu,ds,h1,h2,h3,h4,h5⟩:=h
  have g4:xs.xs = [] ∨ ∃ b off,A = some ⟨b,off,.none⟩ ∧ b < w'.heap.size ∧ ∀ j u,ds[j]? = some u → w'.cell? ⟨b,off + j,.none⟩ = some u:=by
    rcases h4 with h4 | ⟨c,off,e1,e2,e3⟩
    · exact .inl h4
    · exact .inr ⟨c,off,e1,Nat.lt_of_lt_of_le e2 hb.below.size,fun j u hu=>(World.cell?_of_block (hb.below.block c e2)).trans (e3 j u hu)⟩
  exact ⟨A,m,cu,ds,h1,h2,h3.keep (Keeps.below hb.below) fun c hc hk=>⟨hk.1,fun hm=>by
    rcases List.mem_cons.1 hm with e | hm
    · obtain rfl:=Option.some.inj e;have:=hb.ge;omega
    · exact hk.2 hm⟩,g4,h5.keep (Keeps.below hb.below) fun _ _ _=>trivial⟩
end
end Go.Proofs.Ytmcpcdmonglkjaa
namespace Go.Proofs.Ytmcpcdmonglkjaa
open Go.RowKit Go.ChangeShapes
theorem RepCs.sl1 {w:World} {K:Nat → Prop} {c:List Value}:∀ {t:GT} {y:PT t},d_5 t = true → RepCs t w K c y → ∃ u,c = [u] ∧ RepV t w K u y
  | .sl e,y,_,h=>by
    have h0:=h
    obtain ⟨A,n,q,e1,_⟩:=h
    exact ⟨_,e1,c,h0,by rw [e1];rfl⟩
theorem c_5 {P:Program}:∀ {f:GT} {k:Nat} {T:TypeId} {fs:List Field} {off:Nat},tie P f true T fs off = true → d_5 (comp f k) = true → pureOp.fieldB f k = true → ∃ fld E,fs[k]? = some fld ∧ fld.offset = off + a_g f k ∧ P.underlying fld.type = some (.slice E)
  | .pair (.sl e) b,0,T,fs,off,h,_,_=>by
    cases fs with
    | nil=>simp [tie] at h
    | cons f fs =>
      rw [tie] at h
      simp only [Bool.and_eq_true,beq_iff_eq] at h
      obtain ⟨E,hE,_⟩:=b_c h.1.1
      exact ⟨f,E,rfl,by simpa [a_g] using h.1.2,hE⟩
  | .pair a b,k + 1,T,fs,off,h,hs,hk=>by
    cases fs with
    | nil=>simp [tie] at h
    | cons f fs =>
      rw [tie] at h
      simp only [Bool.and_eq_true,beq_iff_eq] at h
      obtain ⟨fld,E,h1,h2,h3⟩:=c_5 h.2 (k:=k) hs (by simpa [pureOp.fieldB] using hk)
      exact ⟨fld,E,by simpa using h1,by rw [h2,Nat.add_assoc],h3⟩
  | .sl e,0,T,fs,off,h,_,_=>by
    match fs with
    | []=>simp [tie] at h
    | [f] =>
      rw [tie] at h
      simp only [Bool.and_eq_true,beq_iff_eq] at h
      cases hu:P.underlying f.type with
      | none=>simp [hu] at h
      | some d=>cases d with
        | slice E=>exact ⟨f,E,rfl,h.1.1,hu⟩
        | _=>simp [hu] at h
    | _ :: _ :: _=>simp [tie] at h
section
variable {dd:List Deferred} {N:Nat} {a:Act} {l:List (Nat × Value)} {w w0:World} {P:Program} {ops:Array Oper} {Q:Exit → Act → World → Prop} {rest:List Oper} {o:Oper} {Kont:Act → World → Prop} {d:Nat} {K:Nat → Prop}
theorem b_end0 (S:St N a l) {fn:Func} {R:Ending → World → Prop} (hr:fn.results = #[]) (hR:∀ v,R (.returned v) w):bodyPost P fn R .normal a w:=d_U (P:=P) S hr hR
theorem op_field (S:StD dd N a l) {T:TypeId} {x:Operand} {f:GT} {k:Nat} {v:Value} {y:PT f} (ho:o.op = .field T x k) (ht:tie P (.st f) false T [] 0 = true) (hs:d_5 (comp f k) = true) (hk:pureOp.fieldB f k = true) (hd:o.dst = some d) (hN:Nat.blt d N = true)
    (hx:ev l x = some v) (R:RepV (.st f) w K v y) (kk:∀ a' u,RepV (comp f k) w K u (proj f k y) → StD dd N a' ((d,u) :: l) → Kont a' w):o.wp P a w Kont Q:=by
  obtain ⟨cs,hc,rfl⟩:=R
  rw [tie] at ht
  simp only [Bool.and_eq_true] at ht
  cases hu:P.underlying T with
  | none=>simp [hu] at ht
  | some ds=>cases ds with
    | struct fs =>
      simp only [hu] at ht
      obtain ⟨fld,E,h1,h2,h3⟩:=c_5 ht.1 (k:=k) hs hk
      obtain ⟨c1,c,c2,e1,e2,e3,_⟩:=Ln.comp (t:=f) k w K cs y hc
      obtain ⟨u,rfl,hR⟩:=RepCs.sl1 hs e3
      have hcell:cs[fld.offset]? = some u:=by
        rw [h2,e1,Nat.zero_add,← e2]
        simp
      have hfld:fs[k]? = some fld:=by simpa using h1
      have hrun:(Instr.field T (.agg cs.toArray) k).run P w = .ok u w:=by
        simp [Instr.field,run_underlying hu,hfld,asAgg,part,isAgg,run_underlying h3,hcell]
      refine a_B S (v:=u) hd hN ?_ fun a'=>kk a' u hR
      have hv:(if (GT.st f).agg then Value.agg cs.toArray else cs.headD undef) = .agg cs.toArray:=rfl
      rw [hv] at hx
      simp [execOp,ho,S.eval hx,hrun]
    | _=>simp [hu] at ht
theorem op_allocf (S:StD dd N a l) {T:TypeId} (ho:o.op = .alloc T) (hz:(P.info? T).bind (·.zero) = some .nilFunc) (hd:o.dst = some d) (hN:Nat.blt d N = true)
    (k:∀ a' w' b,NewB w w' b → Ox (.cells #[.nilFunc] T (0,0)) w' b → StD dd N a' ((d,.pointer (some ⟨b,0,.none⟩)) :: l) → Kont a' w'):o.wp P a w Kont Q:=by
  obtain ⟨i,hi,hz⟩:=Option.bind_eq_some_iff.1 hz
  refine a_B S (v:=.pointer (some ⟨w.heap.size,0,.none⟩)) (w':=w.alloc (.cells #[.nilFunc] T)) hd hN ?_ fun a'=>k a' _ w.heap.size (a_P w _) ⟨heap_alloc_new w _,trivial⟩
  simp [execOp,ho,Instr.alloc,zeroValue,typeInfo,hi,hz,newVar,newRow,Value.cells]
theorem op_storef (S:StD dd N a l) {T:TypeId} (hs:((P.info? T).any fun i=>i.size == 1) = true) {ad x:Operand} {f:Fn} {fi cap:Array Value} {v0:Value} {b:Nat} (ho:o.op = .store T ad x) (hd:o.dst = .none) (ha:ev l ad = some (.pointer (some ⟨b,0,.none⟩))) (hx:ev l x = some (.func f fi cap))
    (hO:Ox (.cells #[v0] T (0,0)) w b) (k:∀ w',Wrote b w w' → Ox (.cells #[.func f fi cap] T (0,0)) w' b → Kont a w'):o.wp P a w Kont Q:=by
  obtain ⟨i,hi,hs⟩:∃ i,P.info? T = some i ∧ i.size = 1:=by
    cases hi:P.info? T with
    | none=>rw [hi] at hs;cases hs
    | some i=>rw [hi] at hs;exact ⟨i,rfl,by simpa using hs⟩
  have hc:w.cell? ⟨b,0,.none⟩ = some v0:=by unfold World.cell?;rw [hO.1];rfl
  have hfz:w.frozen? ⟨b,0,.none⟩ = false:=by unfold World.frozen?;rw [hO.1];rfl
  have hst:(store ⟨b,0,.none⟩ (.func f fi cap)).run P w = .ok () (w.setCell ⟨b,0,.none⟩ (.func f fi cap)):=by
    show Sem.run P (.store .plain _ (.func f fi cap) (.pure ())) w = _
    simp [Sem.run,hc,hfz]
  have hrun:(execOp a.eval o).run P w = .ok .skip (w.setCell ⟨b,0,.none⟩ (.func f fi cap)):=by
    simp [execOp,ho,S.eval ha,S.eval hx,Instr.storeAt,Instr.sureAddr,storeVar,sizeOf,typeInfo,hi,hs,Value.cells,storeCells,Addr.add,hst]
  have hb:=hO.lt
  unfold Oper.wp
  rw [hrun]
  simp only [Oper.upon,hd]
  have hg:w.heap[b] = .cells #[v0] T (0,0):=by
    have:=hO.1
    rw [Array.getElem?_eq_getElem hb] at this
    exact Option.some.inj this
  refine k _ ⟨rfl,rfl,rfl,by simp [World.setCell],fun q hq=>?_⟩ ⟨?_,trivial⟩
  · simp [World.setCell,Array.getElem?_modify,Ne.symm hq]
  · simp [World.setCell,Array.getElem?_modify,hb,hg,Array.getElem_modify]
end
end Go.Proofs.Ytmcpcdmonglkjaa
namespace Go.Proofs.Ytmcpcdmonglkjaa
open Go.RowKit
def Oq (φ:Obj → Prop) (w:World) (b:Nat):Prop:=∃ o,φ o ∧ Ox o w b
section
variable {w0 w w' A B:World} {L L' LO P Q:List (Option Nat)} {K:Nat → Prop} {n b d i:Nat} {φ:Obj → Prop} {v v':Value} {o:Option Nat}
theorem Oq.lt (h:Oq φ w b):b < w.heap.size:=by obtain ⟨o,_,h⟩:=h;exact h.lt
theorem Oq.step (h:Oq φ w b) (hb:Below w.heap.size w w'):Oq φ w' b:=by obtain ⟨o,hs,h⟩:=h;exact ⟨o,hs,h.step hb⟩
theorem Oq.box (h:Oq φ w b) (hb:NewB w w' i):Oq φ w' b:=h.step hb.below
theorem Oq.newO (h:Oq φ w b) (hN:NewO w w' o):Oq φ w' b:=h.step hN.below
theorem Oq.newW (h:Oq φ w b) (hN:Wd w w' P):Oq φ w' b:=h.step hN.below
theorem Oq.wrote (h:Oq φ w b) (hw:Wrote i w w') (hm:True) (hne:b ≠ i):Oq φ w' b:=by obtain ⟨o,hs,h⟩:=h;exact ⟨o,hs,h.wrote hw hm hne⟩
theorem Oq.apd (h:Oq φ w b) (W:Wd w0 w L) (ha:Apd w w' v v') (hi:L[i]? = some v.ownBlock) {j:Nat} (hj:L[j]? = some (some b)) (hji:j ≠ i):Oq φ w' b:=by obtain ⟨o,hs,h⟩:=h;exact ⟨o,hs,h.apd W ha hi hj hji⟩
theorem Oq.more (h:Oq φ w b):Oq φ w b:=h
theorem Oq.lessAt (h:Oq φ w b) (i:Nat):Oq φ w b:=h
theorem Oq.drop (h:Oq φ w b) (i:Nat):Oq φ w b:=h
theorem Oq.nc (h:Oq φ A b) (hn:Nc d A B) (hb:b ≠ d):Oq φ B b:=by obtain ⟨o,hs,h⟩:=h;exact ⟨o,hs,h.nc hn hb⟩
theorem Oq.mk_ {m:Nat} (h:Oq φ w b) (hm:Mk m L w w') (hb:some b ∈ L):Oq φ w' b:=by obtain ⟨o,hs,h⟩:=h;exact ⟨o,hs,h.mk_ hm hb⟩
theorem Oq.gs {I:List Nat} {s c:Nat} {F:GW → Prop} {g g':GW} (h:Oq φ g.2 c) (hg:Gs w0 I L s b F g g') (hne:c ≠ b):Oq φ g'.2 c:=by obtain ⟨o,hs,h⟩:=h;exact ⟨o,hs,h.gs hg hne⟩
theorem Oq.sto {t:GT} {T:TypeId} {g:Nat} {xn:PT t} {K':Nat → Prop} (h:Oq φ w b) (hs:Sto t T K' g xn w w') (hne:b ≠ g):Oq φ w' b:=by obtain ⟨o,hq,h⟩:=h;exact ⟨o,hq,h.sto hs hne⟩
theorem Oq.yst (Bs:List (Option Nat)) (h:Oq φ A b) (hy:Yst n A LO B L') (W:Wd w0 A (Bs ++ LO)) (hb:some b ∈ Bs):Oq φ B b:=by obtain ⟨o,hs,h⟩:=h;exact ⟨o,hs,h.yst Bs hy W hb⟩
theorem Oq.yfr (LO:List (Option Nat)) (h:Oq φ A b) (hy:Yst n A P B Q) (W:Wd w0 A (P ++ LO)) (hb:some b ∈ LO):Oq φ B b:=by obtain ⟨o,hs,h⟩:=h;exact ⟨o,hs,h.yfr LO hy W hb⟩
end
def MapObj (kd:IntKind) (xs:List Int) (o:Obj):Prop:=∃ es:Array MapEntry,o = .map es xs.length ∧ es.toList.map (fun e=>(e.key,e.val)) = xs.map (fun x=>(Value.int kd x,Value.bool true)) ∧ es.toList.map (·.born) = List.range xs.length ∧ ∀ x ∈ xs,InR kd x
structure MapTy (P:Program) (Tm Tk Tv:TypeId) (kd:IntKind):Prop where
  mp:P.underlying Tm = some (.map Tk Tv)
  key:P.underlying Tk = some (.int kd)
def mapTyB (P:Program) (Tm Tk Tv:TypeId) (kd:IntKind):Bool:=isMp (P.underlying Tm) Tk Tv && isIn (P.underlying Tk) kd
theorem MapTy.of {P:Program} {Tm Tk Tv:TypeId} {kd:IntKind} (h:mapTyB P Tm Tk Tv kd = true):MapTy P Tm Tk Tv kd:=by
  simp only [mapTyB,Bool.and_eq_true] at h
  obtain ⟨h4,h5⟩:=h
  refine ⟨?_,?_⟩
  · unfold isMp at h4
    split at h4
    · rename_i k v hu
      simp only [Bool.and_eq_true,Nat.beq_eq] at h4
      rw [hu,h4.1,h4.2]
    · cases h4
  · unfold isIn at h5
    split at h5
    · rename_i k hu
      rw [hu,of_decide_eq_true h5]
    · cases h5
theorem MapObj.at {kd:IntKind} {xs:List Int} {es:Array MapEntry} (h1:es.toList.map (fun e=>(e.key,e.val)) = xs.map (fun x=>(Value.int kd x,Value.bool true))) (h2:es.toList.map (·.born) = List.range xs.length)
    {e:MapEntry} (he:e ∈ es.toList):∃ x,xs[e.born]? = some x ∧ e.key = .int kd x ∧ e.val = .bool true ∧ e.born < xs.length:=by
  obtain ⟨j,hj,hje⟩:=List.mem_iff_getElem.1 he
  have hl:es.toList.length = xs.length:=by have:=congrArg List.length h1;simpa using this
  have hb:e.born = j:=by
    have:=congrArg (fun l=>l[j]?) h2
    simp only [List.getElem?_map,List.getElem?_eq_getElem hj,Option.map_some,hje] at this
    rw [List.getElem?_range (by omega)] at this
    exact Option.some.inj this
  have hx:j < xs.length:=by omega
  have:=congrArg (fun l=>l[j]?) h1
  simp only [List.getElem?_map,List.getElem?_eq_getElem hj,Option.map_some,hje,List.getElem?_eq_getElem hx] at this
  have q:=Option.some.inj this
  refine ⟨xs[j],by rw [hb,List.getElem?_eq_getElem hx],?_,?_,by omega⟩
  · exact (Prod.mk.inj q).1
  · exact (Prod.mk.inj q).2
section
variable {ds:List Deferred} {N:Nat} {a:Act} {l:List (Nat × Value)} {w w0:World} {P:Program} {ops:Array Oper} {Q:Exit → Act → World → Prop} {rest:List Oper} {o:Oper} {Kont:Act → World → Prop} {d:Nat} {Tm Tk Tv:TypeId} {kd:IntKind}
end
section
variable {ds:List Deferred} {N:Nat} {a:Act} {l:List (Nat × Value)} {w w0:World} {P:Program} {ops:Array Oper} {Q:Exit → Act → World → Prop} {rest:List Oper} {o:Oper} {Kont:Act → World → Prop} {d:Nat} {K:Nat → Prop} {L:List (Option Nat)}
theorem RepAt.sl {m:Nat} {e:GT} {p:Addr} {xs:List (PT e)} (R:RepAt (.arr m e) w K p xs) (hb:p.block < w.heap.size) (hK:K p.block) (hm:m ≤ 9223372036854775807):RepV (.sl e) w K (.slice (some p) m m) (⟨xs,some m⟩:Sl (PT e)):=by
  obtain ⟨h0,cs,⟨hx,css,rfl,hl,hr⟩,hc⟩:=R
  obtain ⟨b,off,sp⟩:=p
  have h0:sp = .none:=h0
  subst h0
  have key:∀ (css:List (List Value)) (ys:List (PT e)),css.length = ys.length → (∀ (j:Nat) c y,css[j]? = some c → ys[j]? = some y → RepCs e w K c y) → ∀ (j:Nat) (c:List Value),css[j]? = some c → ∀ (i:Nat) (v:Value),c[i]? = some v → css.flatten[j * e.sz + i]? = some v:=by
    intro css
    induction css with
    | nil=>intro ys _ _ j c hj;simp at hj
    | cons c0 css ih =>
      intro ys hly hh j c hj i v hi
      match ys,hly with
      | y0 :: ys,hly =>
        have hlen:c0.length = e.sz:=RepCs.len (hh 0 c0 y0 rfl rfl)
        have hi':i < c.length:=by rcases Nat.lt_or_ge i c.length with h | h;exact h;rw [List.getElem?_eq_none h] at hi;cases hi
        cases j with
        | zero =>
          obtain rfl:c0 = c:=by simpa using hj
          rw [List.flatten_cons,Nat.zero_mul,Nat.zero_add,List.getElem?_append_left hi',hi]
        | succ j =>
          have hj':css[j]? = some c:=by simpa using hj
          have:=ih ys (by simpa using hly) (fun j c y h1 h2=>hh (j + 1) c y (by simpa using h1) (by simpa using h2)) j c hj' i v hi
          rw [List.flatten_cons,List.getElem?_append_right (by rw [hlen,Nat.add_mul];omega),hlen,← this]
          congr 1
          rw [Nat.add_mul];omega
  refine ⟨[_],⟨_,_,_,rfl,hx,Nat.le_refl _,hm,fun k hk=>by simpa using hk,?_⟩,rfl⟩
  refine .inr ⟨b,off,rfl,hb,hK,fun j x hj=>?_⟩
  have hjl:j < css.length:=by
    rcases Nat.lt_or_ge j xs.length with h | h
    · omega
    · rw [List.getElem?_eq_none h] at hj;cases hj
  have hcj:=List.getElem?_eq_getElem hjl
  have hR:=hr j _ x hcj hj
  refine ⟨css[j],hR,hR.len,fun i v hv=>?_⟩
  have:=hc (j * e.sz + i) v (key css xs (by omega) hr j _ hcj i v hv)
  rw [← this]
  congr 1
  show (⟨b,off + j * e.sz + i,.none⟩:Addr) = ⟨b,off + (j * e.sz + i),.none⟩
  rw [Nat.add_assoc]
theorem Pr.kk {t:GT} {p:Addr} {x:PT t} (h:Pr t w0 K p x) (W:Wd w0 w L):Kx K w0.heap.size L p.block:=⟨.inl h.2.2,fun hm=>by have:=(W.own _ hm).1;have:=h.2.1;omega⟩
theorem Pr.lt' {t:GT} {p:Addr} {x:PT t} (h:Pr t w0 K p x) (W:Wd w0 w L):p.block < w.heap.size:=by have:=W.below.size;have:=h.2.1;omega
theorem Pr.br' {t:GT} {p:Addr} {x:PT t} (h:Pr t w K p x):Br t w K p x:=⟨h.1,h.2.1⟩
end
namespace R
section
variable {r:Option Nat} {P:Program} {Q:Exit → Act → World → Prop} {a:Act} {w:World}
end
end R
end Go.Proofs.Ytmcpcdmonglkjaa
