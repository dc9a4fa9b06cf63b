/- The rules of the walk over plain data, more: a region that draws its order, whose last operations wait for all before them. Plain theorems, no condition. -/
import Derived.Test.YtfelbalkobcfhaaXE14
set_option linter.unusedVariables false
set_option linter.unusedSimpArgs false
namespace Go.Proofs.Ytfelbalkobcfhaa
open Go.RowKit
def sufB (ops:Array Oper) (n:Nat) (nxt:List Nat):Bool :=
  decide (ops.size ≤ n) || (List.range (ops.size - 1)).all fun j=>(let k:=nxt.getD j 0;decide (j < k) && decide (k ≤ if j < n then n else j + 1) &&
    match ops[k]? with
    | some o=>o.after.any fun e=>Region.binds .any e && e.on == j
    | none=>false)
theorem sufB.get {ops:Array Oper} {n:Nat} {nxt:List Nat} (h:sufB ops n nxt = true) (hn:n < ops.size) {j:Nat} (hj:j < ops.size - 1):∃ k o,j < k ∧ (k ≤ if j < n then n else j + 1) ∧ ops[k]? = some o ∧ ∃ e ∈ o.after,Region.binds .any e = true ∧ e.on = j:=by
  unfold sufB at h
  rw [decide_eq_false (by omega),Bool.false_or,List.all_eq_true] at h
  have:=h j (List.mem_range.2 hj)
  simp only [Bool.and_eq_true,decide_eq_true_eq] at this
  obtain ⟨⟨h1,h2⟩,h3⟩:=this
  cases ho:ops[nxt.getD j 0]? with
  | none=>rw [ho] at h3;cases h3
  | some o =>
    rw [ho] at h3
    simp only [Array.any_eq_true'] at h3
    obtain ⟨e,he,h4⟩:=h3
    simp only [Bool.and_eq_true,beq_iff_eq] at h4
    exact ⟨_,o,h1,h2,ho,e,he,h4.1,h4.2⟩
def c_q (ops:Array Oper) (listed:Array Bool):Prop:=∀ (i:Nat) (o:Oper),listed.getD i false = true → ops[i]? = some o → ∀ e ∈ o.after,Region.binds .any e = true → listed.getD e.on false = true
theorem sufB.before {ops:Array Oper} {n:Nat} {nxt:List Nat} (h:sufB ops n nxt = true) {listed:Array Bool} (hc:c_q ops listed) {i:Nat} {o:Oper} (ho:ops[i]? = some o) (hi:n ≤ i)
    (hall:∀ e ∈ o.after,Region.binds .any e = true → listed.getD e.on false = true):∀ d j,j + d + 1 = i → listed.getD j false = true:=by
  have hil:i < ops.size:=by
    rcases Nat.lt_or_ge i ops.size with h | h
    · exact h
    · rw [Array.getElem?_eq_none h] at ho;cases ho
  intro d
  induction d using Nat.strongRecOn with
  | ind d ih =>
    intro j hj
    obtain ⟨k,ok,h1,h2,hk,e,he,hb,hej⟩:=sufB.get h (by omega) (j:=j) (by omega)
    have hki:k ≤ i:=by
      split at h2 <;> omega
    rcases Nat.lt_or_ge k i with h3 | h3
    · have:=ih (i - k - 1) (by omega) k (by omega)
      have:=hc k ok this hk e he hb
      rwa [hej] at this
    · obtain rfl:k = i:=by omega
      rw [hk] at ho
      obtain rfl:=Option.some.inj ho
      have:=hall e he hb
      rwa [hej] at this
structure RInvP (R:World → World → Prop) (ops:Array Oper) (n:Nat) (F:Nat → Value → World → Prop) (a0:Act) (w0:World) (listed:Array Bool) (a:Act) (w:World):Prop where
  size:listed.size = ops.size
  tsize:a.tmps.size = a0.tmps.size
  defers:a.defers = a0.defers
  below:R w0 w
  keep:∀ t,(∀ (i:Nat) (o:Oper),i < n → ops[i]? = some o → o.dst ≠ some t) → a.tmps[t]? = a0.tmps[t]?
  done:∀ (i:Nat) (o:Oper) (d:Nat),listed.getD i false = true → ops[i]? = some o → o.dst = some d → ∃ v,a.tmps[d]? = some v ∧ F i v w
  doneN:∀ (i:Nat) (o:Oper),listed.getD i false = true → ops[i]? = some o → o.dst = none → F i undef w
  late:∀ i,n ≤ i → listed.getD i false = false
  closed:c_q ops listed
section
variable {R:World → World → Prop} {P:Program} {ops:Array Oper} {F:Nat → Value → World → Prop} {a0:Act} {w0:World} {Q:Exit → Act → World → Prop} {n:Nat}
theorem b_z {listed:Array Bool} {i:Nat} (h:i < listed.size):(listed.setIfInBounds i true).getD i false = true:=by
  simp [Array.getD_eq_getD_getElem?,h]
theorem d_1 {ops:Array Oper} {n i:Nat} {o:Oper} {d:Nat} (hi:i < n) (h:ops[i]? = some o) (hd:o.dst = some d):d ∈ a_P (ops.toList.take n).toArray :=
  a_T (i:=i) (o:=o) (by
    have:(ops.toList.take n)[i]? = some o:=by rw [List.getElem?_take_of_lt hi];simpa using h
    simpa using this) hd
theorem RInvP.step (hR0:∀ w,R w w) (hRt:∀ a b c,R a b → R b c → R a c) (hB:a_v ops a0.tmps.size = true) (hst:∀ i v w w',R w w' → F i v w → F i v w')
    {listed:Array Bool} {a:Act} {w:World} {i:Nat} (hin:i < n) (hs:∀ o,ops[i]? = some o → c_U (a_P (ops.toList.take n).toArray) R P ops F a0 w0 Q i o) (h:RInvP R ops n F a0 w0 listed a w) (hi:i ∈ Region.ready .any ops listed) :
    wpOp P ops Q i (fun a' w'=>RInvP R ops n F a0 w0 (listed.setIfInBounds i true) a' w') a w:=by
  obtain ⟨hun,o,ho,hall⟩:=mem_ready.1 hi
  simp only [a_v,Bool.and_eq_true,decide_eq_true_eq,List.all_eq_true] at hB
  obtain ⟨⟨hnd,hlt⟩,_⟩:=hB
  have hstep:=hs o ho a w h.below h.defers h.tsize (fun t ht=>h.keep t fun i o hi ho hd=>ht (d_1 hi ho hd)) (by
    have:∀ l:List Edge,(∀ e ∈ l,e ∈ o.after ∧ Region.binds .any e = true) → c_x ops F a w l:=by
      intro l
      induction l with
      | nil=>intro _;trivial
      | cons e es ih =>
        intro hl
        refine ⟨?_,ih fun x hx=>hl x (List.mem_cons_of_mem _ hx)⟩
        obtain ⟨he,hb⟩:=hl e (by simp)
        have hd:=hall e he hb
        cases hoe:ops[e.on]? with
        | none=>trivial
        | some oe =>
          cases hde:oe.dst with
          | none=>simp [hde]
          | some d=>simpa [hde] using h.done e.on oe d hd hoe hde
    exact this _ fun e he=>by
      rw [List.mem_filter] at he
      exact ⟨Array.mem_toList_iff.1 he.1,he.2⟩)
  have fin:∀ v w',(o.dst = none → v = undef) → F i v w' → R w w' → RInvP R ops n F a0 w0 (listed.setIfInBounds i true) (a.put o.dst v) w':=by
    intro v w' hnone hv hb
    have tk:∀ t,o.dst ≠ some t → (a.put o.dst v).tmps[t]? = a.tmps[t]?:=by
      intro t hne
      cases hd:o.dst with
      | none=>rfl
      | some d =>
        have:d ≠ t:=fun e=>hne (by rw [hd,e])
        simp [Act.put,Array.getElem?_setIfInBounds_ne this]
    refine ⟨by simpa using h.size,?_,?_,hRt _ _ _ h.below hb,fun t ht=>?_,fun j p d hj hp hd=>?_,fun j p hj hp hd=>?_,fun j hj=>?_,fun j p hj hp e he hb=>?_⟩
    · cases hd:o.dst <;> simp [Act.put,h.tsize]
    · cases hd:o.dst <;> simp [Act.put,h.defers]
    · rw [tk t (ht i o hin ho),h.keep t ht]
    · by_cases hij:i = j
      · subst hij
        rw [ho] at hp
        obtain rfl:=Option.some.inj hp
        refine ⟨v,?_,hv⟩
        have:d < a.tmps.size:=by
          rw [h.tsize]
          exact hlt d (a_T ho hd)
        simp [Act.put,hd,this]
      · rw [show (listed.setIfInBounds i true).getD j false = listed.getD j false from getD_set_ne false hij] at hj
        obtain ⟨u,hu,hF⟩:=h.done j p d hj hp hd
        refine ⟨u,?_,hst _ _ _ _ hb hF⟩
        rw [tk d (fun e=>hij (b_J ops.toList hnd i j o p d (by simpa using ho) (by simpa using hp) e hd))]
        exact hu
    · by_cases hij:i = j
      · subst hij
        rw [ho] at hp
        obtain rfl:=Option.some.inj hp
        rw [← hnone hd]
        exact hv
      · rw [show (listed.setIfInBounds i true).getD j false = listed.getD j false from getD_set_ne false hij] at hj
        exact hst _ _ _ _ hb (h.doneN j p hj hp hd)
    · rw [show (listed.setIfInBounds i true).getD j false = listed.getD j false from getD_set_ne false (by omega)]
      exact h.late j hj
    · have keep:∀ m,listed.getD m false = true → (listed.setIfInBounds i true).getD m false = true:=fun m hm=>by
        by_cases him:i = m
        · subst him
          exact b_z (by
            rcases Nat.lt_or_ge i listed.size with h1 | h1
            · exact h1
            · simp [Array.getD_eq_getD_getElem?,Nat.not_lt.2 h1] at hm)
        · rw [show (listed.setIfInBounds i true).getD m false = listed.getD m false from getD_set_ne false him]
          exact hm
      refine keep _ ?_
      by_cases hij:i = j
      · subst hij
        rw [ho] at hp
        obtain rfl:=Option.some.inj hp
        exact hall e he hb
      · rw [show (listed.setIfInBounds i true).getD j false = listed.getD j false from getD_set_ne false hij] at hj
        exact h.closed j p hj hp e he hb
  unfold wpOp
  simp only [ho]
  split
  · rename_i hw
    rw [if_pos hw] at hstep
    exact hstep.imp (Oper.wp_mono (fun a' w' ⟨v,e,hn,hv,hb⟩=>by subst e;exact fin v w' hn hv hb)) id
  · rename_i hw
    rw [if_neg hw] at hstep
    exact fin undef w (fun _=>rfl) hstep (hR0 _)
theorem RInvP.finish (hB:a_v ops a0.tmps.size = true) {listed:Array Bool} {a:Act} {w:World} (h:RInvP R ops n F a0 w0 listed a w) (hall:∀ i,i < n → i < ops.size → listed.getD i false = true)
    {K:Act → Prop} (hend:b_u F w K 0 (ops.toList.take n) a0):K a:=by
  have hB':=hB
  simp only [a_v,Bool.and_eq_true,decide_eq_true_eq,List.all_eq_true] at hB'
  obtain ⟨⟨hnd,hlt⟩,_⟩:=hB'
  have key:∀ (l:List Oper) (k:Nat) (b:Act),(∀ j,l[j]? = (ops.toList.take n)[k + j]?) → b.tmps.size = a.tmps.size → b.defers = a.defers →
      (∀ t,(∀ (j:Nat) (o:Oper),l[j]? = some o → o.dst ≠ some t) → b.tmps[t]? = a.tmps[t]?) → b_u F w K k l b → K a:=by
    intro l
    induction l with
    | nil =>
      intro k b _ hs hd ht he
      have:b = a:=by
        obtain ⟨bt,bd⟩:=b
        obtain ⟨at_,ad⟩:=a
        simp only at hd
        subst hd
        have:bt = at_:=Array.ext_getElem? fun t=>ht t (fun j o hj=>by simp at hj)
        rw [this]
      rw [← this]
      exact he
    | cons o l ih =>
      intro k b hl hs hd ht he
      have h00:(ops.toList.take n)[k]? = some o:=by simpa using (hl 0).symm
      have hkn:k < n:=by
        rcases Nat.lt_or_ge k n with h1 | h1
        · exact h1
        · rw [List.getElem?_take_eq_none h1] at h00;cases h00
      have h0:ops[k]? = some o:=by
        rw [List.getElem?_take_of_lt hkn] at h00
        simpa using h00
      have hl':∀ j,l[j]? = (ops.toList.take n)[k + 1 + j]?:=fun j=>by have:=hl (j + 1);rw [Nat.add_assoc,Nat.add_comm 1 j];exact this
      have hlk:listed.getD k false = true:=hall k hkn (by
        rcases Nat.lt_or_ge k ops.size with hk | hk
        · exact hk
        · rw [Array.getElem?_eq_none hk] at h0;cases h0)
      unfold b_u at he
      cases hod:o.dst with
      | none =>
        rw [hod] at he
        have he:=he (h.doneN k o hlk h0 hod)
        exact ih (k + 1) b hl' hs hd (fun t hn=>ht t (fun j p hj=>by
          match j,hj with
          | 0,hj=>simp at hj;subst hj;simp [hod]
          | j + 1,hj=>exact hn j p (by simpa using hj))) he
      | some d =>
        rw [hod] at he
        obtain ⟨v,hv,hF⟩:=h.done k o d hlk h0 hod
        refine ih (k + 1) (b.put (some d) v) hl' (by simp [Act.put,hs]) (by simp [Act.put,hd]) (fun t hn=>?_) (he v hF)
        by_cases hdt:d = t
        · subst hdt
          have hlt':d < b.tmps.size:=by rw [hs,h.tsize];exact hlt d (a_T h0 hod)
          simp [Act.put,hlt',hv]
        · simp only [Act.put]
          rw [Array.getElem?_setIfInBounds_ne hdt]
          refine ht t (fun j p hj=>?_)
          match j,hj with
          | 0,hj=>simp at hj;subst hj;simpa [hod] using hdt
          | j + 1,hj=>exact hn j p (by simpa using hj)
  refine key (ops.toList.take n) 0 a0 (by simp) h.tsize.symm h.defers.symm (fun t hn=>(h.keep t (fun i o hi ho hd=>?_)).symm) hend
  exact hn i o (by rw [List.getElem?_take_of_lt hi];simpa using ho) hd
theorem c_I {listed:Array Bool} {a:Act} {w:World} {k:Nat} (hl:listed.size = ops.size) (hk:∀ i,listed.getD i false = true ↔ i < k ∧ i < ops.size) (hw:wpList P ops Q (ops.toList.drop k) a w) {o:Oper} (ho:ops[k]? = some o) :
    wpOp P ops Q k (fun a' w'=>(listed.setIfInBounds k true).size = ops.size ∧ (∀ i,(listed.setIfInBounds k true).getD i false = true ↔ i < k + 1 ∧ i < ops.size) ∧ wpList P ops Q (ops.toList.drop (k + 1)) a' w') a w:=by
  have hks:k < ops.size:=by
    rcases Nat.lt_or_ge k ops.size with h | h
    · exact h
    · rw [Array.getElem?_eq_none h] at ho;cases ho
  have hd:ops.toList.drop k = o :: ops.toList.drop (k + 1):=by
    rw [List.drop_eq_getElem_cons (by simpa using hks)]
    congr 1
    have:ops.toList[k]? = some o:=by simpa using ho
    rw [List.getElem?_eq_getElem (by simpa using hks)] at this
    exact Option.some.inj this
  have h1:(listed.setIfInBounds k true).size = ops.size:=by simpa using hl
  have h2:∀ i,(listed.setIfInBounds k true).getD i false = true ↔ i < k + 1 ∧ i < ops.size:=by
    intro i
    by_cases hik:k = i
    · subst hik
      rw [b_z (by omega)]
      exact ⟨fun _=>⟨by omega,hks⟩,fun _=>rfl⟩
    · rw [show (listed.setIfInBounds k true).getD i false = listed.getD i false from getD_set_ne false hik,hk i]
      constructor
      · rintro ⟨h,h'⟩;exact ⟨by omega,h'⟩
      · rintro ⟨h,h'⟩;exact ⟨by omega,h'⟩
  rw [hd] at hw
  unfold wpList at hw
  unfold wpOp
  simp only [ho]
  split
  · rename_i hw1
    rw [if_pos hw1] at hw
    exact hw.imp (Oper.wp_mono fun a' w' h=>⟨h1,h2,h⟩) id
  · rename_i hw1
    rw [if_neg hw1] at hw
    exact ⟨h1,h2,hw⟩
theorem RunAll.get {E:List Nat} {Fs:List (Value → World → Prop)} (hB:a_v ops a0.tmps.size = true) (hsel:Region.noSelect ops = true):∀ (l:List Oper) (k:Nat) (D:List (List (Nat × Nat))),
    (∀ j o,l[j]? = some o → ops[k + j]? = some o) → a_Q E ops l D = true → RunAll R P ops a0 w0 Q Fs k l D → ∀ j o,l[j]? = some o → c_U E R P ops (fun i=>Fs.getD i (fun _ _=>True)) a0 w0 Q (k + j) o
  | [],_,_,_,_,_,j,o,h=>by simp at h
  | x :: l,k,[],_,_,h,_,_,_=>h.elim
  | x :: l,k,ds :: D,hl,hD,h,j,o,hj=>by
    simp only [a_Q,Bool.and_eq_true] at hD
    match j,hj with
    | 0,hj =>
      simp at hj
      subst hj
      exact d_m (F:=Fs) (f:=nthF Fs k) hB hsel (hl 0 _ (by simp)) hD.1 (fun p _=>rfl) (b_x Fs k) fun W hW=>FillE.deps ds a0 (h.1 W hW)
    | j + 1,hj =>
      have:=RunAll.get hB hsel l (k + 1) D (fun i p hp=>by have:=hl (i + 1) p (by simpa using hp);simpa [Nat.add_assoc,Nat.add_comm 1 i] using this) hD.2 h.2 j o (by simpa using hj)
      rwa [Nat.add_assoc,Nat.add_comm 1 j] at this
theorem d_A {K:Nat → Prop} {l:List Oper} (n:Nat) (nxt:List Nat) (hR:Rel K R) (Fs:List (Value → World → Prop)) (D:List (List (Nat × Nat))) (hm:P.follows .mixedOrders = true) (hB:a_v l.toArray a0.tmps.size = true) (hsel:Region.noSelect l.toArray = true) (hsuf:sufB l.toArray n nxt = true)
    (hD:a_Q (a_P (l.take n).toArray) l.toArray (l.take n) D = true) (hlen:Fs.length = (l.take n).length) (hst:StabL R Fs) (h:RunAll R P l.toArray a0 w0 Q Fs 0 (l.take n) D) (hend:∀ W,R w0 W → EndE W (fun a=>wpList P l.toArray Q (l.drop n) a W) Fs (l.take n) a0):e_O P l Q a0 w0:=by
  unfold e_O
  have hst':∀ (i:Nat) v w w',R w w' → (fun i=>Fs.getD i (fun _ _=>True)) i v w → (fun i=>Fs.getD i (fun _ _=>True)) i v w':=by
    intro i v w w' hb hF
    simp only [List.getD_eq_getElem?_getD] at hF ⊢
    cases hi:Fs[i]? with
    | none=>trivial
    | some f=>rw [hi] at hF;exact hst.all f (List.mem_of_getElem? hi) v w w' hb hF
  have hs:∀ i o,i < n → l.toArray[i]? = some o → c_U (a_P (l.take n).toArray) R P l.toArray (fun i=>Fs.getD i (fun _ _=>True)) a0 w0 Q i o:=by
    intro i o hi ho
    have:=RunAll.get hB hsel (l.take n) 0 D (fun j p hp=>by
      rcases Nat.lt_or_ge j n with h1 | h1
      · rw [List.getElem?_take_of_lt h1] at hp;simpa using hp
      · rw [List.getElem?_take_eq_none h1] at hp;cases hp) hD h i o (by rw [List.getElem?_take_of_lt hi];simpa using ho)
    rwa [Nat.zero_add] at this
  have hac:∀ (i:Nat) (o:Oper),l.toArray[i]? = some o → ∀ e ∈ o.after,Region.binds .any e = true → e.on < i:=by
    have hB':=hB
    simp only [a_v,Bool.and_eq_true,decide_eq_true_eq,List.all_eq_true] at hB'
    intro i o ho e he hb
    have:=hB'.2 (o,i) (by
      rw [List.mem_zipIdx_iff_getElem?]
      simpa using ho)
    simp only [Array.all_eq_true_iff_forall_mem] at this
    have:=this e he
    simpa [hb] using this
  have hfin:∀ {listed:Array Bool} {a:Act} {w:World},RInvP R l.toArray n (fun i=>Fs.getD i (fun _ _=>True)) a0 w0 listed a w → (∀ i,i < n → i < l.toArray.size → listed.getD i false = true) → wpList P l.toArray Q (l.toArray.toList.drop n) a w:=by
    intro listed a w hi hall
    refine RInvP.finish hB hi hall (K:=fun a=>wpList P l.toArray Q (l.toArray.toList.drop n) a w) ?_
    exact EndE.ok Fs _ 0 (l.take n) a0 hlen (fun j=>by rw [Nat.zero_add];exact b_x Fs j) (hend w hi.below)
  refine c_S (I:=fun listed a w=>RInvP R l.toArray n (fun i=>Fs.getD i (fun _ _=>True)) a0 w0 listed a w ∨ ∃ k,n ≤ k ∧ listed.size = l.toArray.size ∧ (∀ i,listed.getD i false = true ↔ i < k ∧ i < l.toArray.size) ∧ wpList P l.toArray Q (l.toArray.toList.drop k) a w)
    (fun listed a w i hI hi=>?_) (fun listed a w hI hr=>?_) _ _ _ _ ?_ ?_
  · obtain ⟨hun,o,ho,hall⟩:=mem_ready.1 hi
    rcases hI with hI | ⟨k,hnk,hsz,hk,hw⟩
    · rcases Nat.lt_or_ge i n with hin | hin
      · exact wpOp_mono (fun a w h=>.inl h) (RInvP.step hR.refl hR.trans hB hst' hin (fun o ho=>hs i o hin ho) hI hi)
      · have hbefore:∀ j,j < i → listed.getD j false = true:=fun j hj=>sufB.before hsuf hI.closed ho hin hall (i - j - 1) j (by omega)
        have hi_n:i = n:=by
          rcases Nat.lt_or_ge n i with h1 | h1
          · have:=hbefore n h1
            rw [hI.late n (Nat.le_refl n)] at this
            cases this
          · omega
        subst hi_n
        have hw:=hfin hI (fun j hj _=>hbefore j hj)
        refine wpOp_mono (fun a w h=>.inr ⟨i + 1,by omega,h⟩) (c_I hI.size (fun j=>⟨fun hj=>?_,fun hj=>hbefore j hj.1⟩) hw ho)
        constructor
        · rcases Nat.lt_or_ge j i with h1 | h1
          · exact h1
          · rw [hI.late j h1] at hj;cases hj
        · rcases Nat.lt_or_ge j l.toArray.size with h1 | h1
          · exact h1
          · have:listed.size ≤ j:=by rw [hI.size];exact h1
            simp [Array.getD_eq_getD_getElem?,Nat.not_lt.2 this] at hj
    · have hil:i < l.toArray.size:=by
        rcases Nat.lt_or_ge i l.toArray.size with h | h
        · exact h
        · rw [Array.getElem?_eq_none h] at ho;cases ho
      have hki:k ≤ i:=by
        rcases Nat.lt_or_ge i k with h1 | h1
        · have:=(hk i).2 ⟨h1,hil⟩
          rw [(unlisted_lt hi).2] at this
          cases this
        · exact h1
      have:i = k:=by
        rcases Nat.lt_or_ge k i with h1 | h1
        · have hcl:c_q l.toArray listed:=fun j p hj hp e he hb=>(hk _).2 (by
            have:=(hk j).1 hj
            have:=hac j p hp e he hb
            omega)
          have:=(hk k).1 (sufB.before hsuf hcl ho (by omega) hall (i - k - 1) k (by omega))
          omega
        · omega
      subst this
      exact wpOp_mono (fun a w h=>.inr ⟨i + 1,by omega,h⟩) (c_I hsz hk hw ho)
  · rcases hI with hI | ⟨k,hnk,hsz,hk,hw⟩
    · have hall:=b_t hI.size hac hr
      have hw:=hfin hI (fun i _ hi=>hall i hi)
      have:l.toArray.toList.drop n = []:=by
        rw [List.drop_eq_nil_iff]
        rcases Nat.lt_or_ge n l.toArray.size with h1 | h1
        · have:=hall n h1
          rw [hI.late n (Nat.le_refl n)] at this
          cases this
        · simpa using h1
      rw [this] at hw
      exact hw
    · have hall:=b_t hsz hac hr
      have:l.toArray.toList.drop k = []:=by
        rw [List.drop_eq_nil_iff]
        rcases Nat.lt_or_ge k l.toArray.size with h1 | h1
        · have:=(hk k).1 (hall k h1)
          omega
        · simpa using h1
      rw [this] at hw
      exact hw
  · refine Nat.le_trans (List.length_filter_le _ _) (by simp)
  · have hf:∀ i,(Array.replicate l.toArray.size false).getD i false = false:=fun i=>by
      rcases Nat.lt_or_ge i l.length with hi | hi
      · simp [Array.getD_eq_getD_getElem?,hi]
      · simp [Array.getD_eq_getD_getElem?,Nat.not_lt.2 hi]
    refine .inl ⟨by simp,rfl,rfl,hR.drawn _,fun _ _=>rfl,fun i o d hl=>?_,fun i o hl=>?_,fun i _=>hf i,fun i o hl=>?_⟩
    · rw [hf i] at hl;cases hl
    · rw [hf i] at hl;cases hl
    · rw [hf i] at hl;cases hl
theorem a_0 {K:Nat → Prop} {id:Nat} {l:List Oper} (n:Nat) (nxt:List Nat) (hR:Rel K R) (Fs:List (Value → World → Prop)) (D:List (List (Nat × Nat))) (hm:P.follows .mixedOrders = true) (hB:a_v l.toArray a0.tmps.size = true) (hsel:Region.noSelect l.toArray = true) (hsuf:sufB l.toArray n nxt = true)
    (hD:a_Q (a_P (l.take n).toArray) l.toArray (l.take n) D = true) (hlen:Fs.length = (l.take n).length) (hst:StabL R Fs) (h:RunAll R P l.toArray a0 w0 Q Fs 0 (l.take n) D) (hend:∀ W,R w0 W → EndE W (fun a=>wpList P l.toArray Q (l.drop n) a W) Fs (l.take n) a0):(Code.region id l.toArray true).wp P Q a0 w0:=wp_region_any hm (d_A n nxt hR Fs D hm hB hsel hsuf hD hlen hst h hend)
end
structure Sto2 (t:GT) (T:TypeId) (K:Nat → Prop) (g:Nat) (xo xn:PT t) (w w':World):Prop where
  os:w'.os = w.os
  tape:w'.tape = w.tape
  output:w'.output = w.output
  size:w.heap.size ≤ w'.heap.size
  block:∀ k,k < w.heap.size → k ≠ g → w'.heap[k]? = w.heap[k]?
  two:Bx t T w K g xo ∨ Bx t T w K g xn → Bx t T w' K g xo ∨ Bx t T w' K g xn
  new:Bx t T w K g xn → Bx t T w' K g xn
theorem Sto2.rel {t:GT} {T:TypeId} {K:Nat → Prop} {g:Nat} {xo xn:PT t} (hg:¬ K g):Rel K (Sto2 t T K g xo xn) :=
  ⟨fun w=>⟨rfl,rfl,rfl,Nat.le_refl _,fun _ _ _=>rfl,id,id⟩,
   fun a b c h k=>⟨k.os.trans h.os,k.tape.trans h.tape,k.output.trans h.output,Nat.le_trans h.size k.size,fun i hi hne=>(k.block i (Nat.lt_of_lt_of_le hi h.size) hne).trans (h.block i hi hne),fun e=>k.two (h.two e),fun e=>k.new (h.new e)⟩,
   fun w=>⟨rfl,rfl,rfl,Nat.le_refl _,fun _ _ _=>rfl,fun h=>h.imp (fun h=>h.step ⟨rfl,rfl,rfl,Nat.le_refl _,fun _ _=>rfl⟩) (fun h=>h.step ⟨rfl,rfl,rfl,Nat.le_refl _,fun _ _=>rfl⟩),fun h=>h.step ⟨rfl,rfl,rfl,Nat.le_refl _,fun _ _=>rfl⟩⟩,
   fun a b h=>⟨h.os,h.tape,h.output,h.size,h.size,fun p hp hk=>World.cell?_of_block (h.block p.block hp fun e=>hg (e ▸ hk))⟩,
   fun a b h=>⟨h.os,h.tape,h.output,h.size,fun k hk _=>h.block k hk,fun e=>e.imp (fun e=>e.step h) (fun e=>e.step h),fun e=>e.step h⟩⟩
section
variable {w0 w w':World} {L:List (Option Nat)} {K:Nat → Prop} {n b:Nat} {t:GT}
theorem Sto2.wd {T:TypeId} {g:Nat} {xo xn:PT t} {K':Nat → Prop} (h:Wd w0 w L) (hs:Sto2 t T K' g xo xn w w') (hg:some g ∈ L):Wd w0 w' L :=
  ⟨h.below.trans ⟨hs.os,hs.tape,hs.output,hs.size,fun k hk=>hs.block k (by have:=h.below.size;omega) (by have:=(h.own g hg).1;omega)⟩,fun c hm=>⟨(h.own c hm).1,by have:=(h.own c hm).2;have:=hs.size;omega⟩,h.dis⟩
theorem Sto2.bx {T T2:TypeId} {g:Nat} {xo xn:PT t} {t2:GT} {x:PT t2} (h:Bx t2 T2 w K b x) (hs:Sto2 t T K g xo xn w w') (hK:¬ K g) (hne:b ≠ g):Bx t2 T2 w' K b x:=by
  have hl:=h.lt
  obtain ⟨cs,h1,h2⟩:=h
  exact ⟨cs,(hs.block b hl hne).trans h1,h2.keep ((Sto2.rel (t:=t) (T:=T) (xo:=xo) (xn:=xn) hK).lv _ _ hs).keep fun _ _ h=>h⟩
end
end Go.Proofs.Ytfelbalkobcfhaa
