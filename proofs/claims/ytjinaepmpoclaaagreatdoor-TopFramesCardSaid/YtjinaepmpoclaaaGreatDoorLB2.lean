/- The rules of the walk over plain data. Plain theorems, no condition. -/
import Derived.Test.YtjinaepmpoclaaaGreatDoorLB1
import Derived.Lib.AppendZerosOnto
import Derived.RangeFuncNested
import Derived.RangeFuncLeaves
import Derived.OrdersIn
import Derived.ArgAppend
import Derived.Scope
import Derived.Maps.RangeRun
import Derived.OrdersHeld
import Derived.LoopN
import Derived.Lib.AppendStr
set_option linter.unusedVariables false
set_option linter.unusedSimpArgs false
namespace Go.Proofs.YtjinaepmpoclaaaGreatDoor
open Go.RowKit
def sufB (ops:Array Oper) (n:Nat) (nxt:List Nat):Bool :=
  decide (ops.size ≤ n) || (List.range (ops.size - 1)).all fun j=>(let k:=nxt.getD j 0;decide (j < k) && decide (k ≤ if j < n then n else j + 1) &&
    match ops[k]? with
    | some o=>o.after.any fun e=>Region.binds .any e && e.on == j
    | none=>false)
theorem sufB.get {ops:Array Oper} {n:Nat} {nxt:List Nat} (h:sufB ops n nxt = true) (hn:n < ops.size) {j:Nat} (hj:j < ops.size - 1):∃ k o,j < k ∧ (k ≤ if j < n then n else j + 1) ∧ ops[k]? = some o ∧ ∃ e ∈ o.after,Region.binds .any e = true ∧ e.on = j:=by
  unfold sufB at h
  rw [decide_eq_false (by omega),Bool.false_or,List.all_eq_true] at h
  have:=h j (List.mem_range.2 hj)
  simp only [Bool.and_eq_true,decide_eq_true_eq] at this
  obtain ⟨⟨h1,h2⟩,h3⟩:=this
  cases ho:ops[nxt.getD j 0]? with
  | none=>rw [ho] at h3;cases h3
  | some o =>
    rw [ho] at h3
    simp only [Array.any_eq_true'] at h3
    obtain ⟨e,he,h4⟩:=h3
    simp only [Bool.and_eq_true,beq_iff_eq] at h4
    exact ⟨_,o,h1,h2,ho,e,he,h4.1,h4.2⟩
def c_4 (ops:Array Oper) (listed:Array Bool):Prop:=∀ (i:Nat) (o:Oper),listed.getD i false = true → ops[i]? = some o → ∀ e ∈ o.after,Region.binds .any e = true → listed.getD e.on false = true
theorem sufB.before {ops:Array Oper} {n:Nat} {nxt:List Nat} (h:sufB ops n nxt = true) {listed:Array Bool} (hc:c_4 ops listed) {i:Nat} {o:Oper} (ho:ops[i]? = some o) (hi:n ≤ i)
    (hall:∀ e ∈ o.after,Region.binds .any e = true → listed.getD e.on false = true):∀ d j,j + d + 1 = i → listed.getD j false = true:=by
  have hil:i < ops.size:=by
    rcases Nat.lt_or_ge i ops.size with h | h
    · exact h
    · rw [Array.getElem?_eq_none h] at ho;cases ho
  intro d
  induction d using Nat.strongRecOn with
  | ind d ih =>
    intro j hj
    obtain ⟨k,ok,h1,h2,hk,e,he,hb,hej⟩:=sufB.get h (by omega) (j:=j) (by omega)
    have hki:k ≤ i:=by
      split at h2 <;> omega
    rcases Nat.lt_or_ge k i with h3 | h3
    · have:=ih (i - k - 1) (by omega) k (by omega)
      have:=hc k ok this hk e he hb
      rwa [hej] at this
    · obtain rfl:k = i:=by omega
      rw [hk] at ho
      obtain rfl:=Option.some.inj ho
      have:=hall e he hb
      rwa [hej] at this
structure RInvP (R:World → World → Prop) (ops:Array Oper) (n:Nat) (F:Nat → Value → World → Prop) (a0:Act) (w0:World) (listed:Array Bool) (a:Act) (w:World):Prop where
  size:listed.size = ops.size
  tsize:a.tmps.size = a0.tmps.size
  defers:a.defers = a0.defers
  below:R w0 w
  keep:∀ t,(∀ (i:Nat) (o:Oper),i < n → ops[i]? = some o → o.dst ≠ some t) → a.tmps[t]? = a0.tmps[t]?
  done:∀ (i:Nat) (o:Oper) (d:Nat),listed.getD i false = true → ops[i]? = some o → o.dst = some d → ∃ v,a.tmps[d]? = some v ∧ F i v w
  doneN:∀ (i:Nat) (o:Oper),listed.getD i false = true → ops[i]? = some o → o.dst = none → F i undef w
  late:∀ i,n ≤ i → listed.getD i false = false
  closed:c_4 ops listed
section
variable {R:World → World → Prop} {P:Program} {ops:Array Oper} {F:Nat → Value → World → Prop} {a0:Act} {w0:World} {Q:Exit → Act → World → Prop} {n:Nat}
theorem c_J {listed:Array Bool} {i:Nat} (h:i < listed.size):(listed.setIfInBounds i true).getD i false = true:=by
  simp [Array.getD_eq_getD_getElem?,h]
theorem mem_dstsT {ops:Array Oper} {n i:Nat} {o:Oper} {d:Nat} (hi:i < n) (h:ops[i]? = some o) (hd:o.dst = some d):d ∈ b_j (ops.toList.take n).toArray :=
  b_w (i:=i) (o:=o) (by
    have:(ops.toList.take n)[i]? = some o:=by rw [List.getElem?_take_of_lt hi];simpa using h
    simpa using this) hd
theorem RInvP.step (hR0:∀ w,R w w) (hRt:∀ a b c,R a b → R b c → R a c) (hB:a_N ops a0.tmps.size = true) (hst:∀ i v w w',R w w' → F i v w → F i v w')
    {listed:Array Bool} {a:Act} {w:World} {i:Nat} (hin:i < n) (hs:∀ o,ops[i]? = some o → c_z (b_j (ops.toList.take n).toArray) R P ops F a0 w0 Q i o) (h:RInvP R ops n F a0 w0 listed a w) (hi:i ∈ Region.ready .any ops listed) :
    wpOp P ops Q i (fun a' w'=>RInvP R ops n F a0 w0 (listed.setIfInBounds i true) a' w') a w:=by
  obtain ⟨hun,o,ho,hall⟩:=mem_ready.1 hi
  simp only [a_N,Bool.and_eq_true,decide_eq_true_eq,List.all_eq_true] at hB
  obtain ⟨⟨hnd,hlt⟩,_⟩:=hB
  have hstep:=hs o ho a w h.below h.defers h.tsize (fun t ht=>h.keep t fun i o hi ho hd=>ht (mem_dstsT hi ho hd)) (by
    have:∀ l:List Edge,(∀ e ∈ l,e ∈ o.after ∧ Region.binds .any e = true) → d_d ops F a w l:=by
      intro l
      induction l with
      | nil=>intro _;trivial
      | cons e es ih =>
        intro hl
        refine ⟨?_,ih fun x hx=>hl x (List.mem_cons_of_mem _ hx)⟩
        obtain ⟨he,hb⟩:=hl e (by simp)
        have hd:=hall e he hb
        cases hoe:ops[e.on]? with
        | none=>trivial
        | some oe =>
          cases hde:oe.dst with
          | none=>simp [hde]
          | some d=>simpa [hde] using h.done e.on oe d hd hoe hde
    exact this _ fun e he=>by
      rw [List.mem_filter] at he
      exact ⟨Array.mem_toList_iff.1 he.1,he.2⟩)
  have fin:∀ v w',(o.dst = none → v = undef) → F i v w' → R w w' → RInvP R ops n F a0 w0 (listed.setIfInBounds i true) (a.put o.dst v) w':=by
    intro v w' hnone hv hb
    have tk:∀ t,o.dst ≠ some t → (a.put o.dst v).tmps[t]? = a.tmps[t]?:=by
      intro t hne
      cases hd:o.dst with
      | none=>rfl
      | some d =>
        have:d ≠ t:=fun e=>hne (by rw [hd,e])
        simp [Act.put,Array.getElem?_setIfInBounds_ne this]
    refine ⟨by simpa using h.size,?_,?_,hRt _ _ _ h.below hb,fun t ht=>?_,fun j p d hj hp hd=>?_,fun j p hj hp hd=>?_,fun j hj=>?_,fun j p hj hp e he hb=>?_⟩
    · cases hd:o.dst <;> simp [Act.put,h.tsize]
    · cases hd:o.dst <;> simp [Act.put,h.defers]
    · rw [tk t (ht i o hin ho),h.keep t ht]
    · by_cases hij:i = j
      · subst hij
        rw [ho] at hp
        obtain rfl:=Option.some.inj hp
        refine ⟨v,?_,hv⟩
        have:d < a.tmps.size:=by
          rw [h.tsize]
          exact hlt d (b_w ho hd)
        simp [Act.put,hd,this]
      · rw [show (listed.setIfInBounds i true).getD j false = listed.getD j false from getD_set_ne false hij] at hj
        obtain ⟨u,hu,hF⟩:=h.done j p d hj hp hd
        refine ⟨u,?_,hst _ _ _ _ hb hF⟩
        rw [tk d (fun e=>hij (c_x ops.toList hnd i j o p d (by simpa using ho) (by simpa using hp) e hd))]
        exact hu
    · by_cases hij:i = j
      · subst hij
        rw [ho] at hp
        obtain rfl:=Option.some.inj hp
        rw [← hnone hd]
        exact hv
      · rw [show (listed.setIfInBounds i true).getD j false = listed.getD j false from getD_set_ne false hij] at hj
        exact hst _ _ _ _ hb (h.doneN j p hj hp hd)
    · rw [show (listed.setIfInBounds i true).getD j false = listed.getD j false from getD_set_ne false (by omega)]
      exact h.late j hj
    · have keep:∀ m,listed.getD m false = true → (listed.setIfInBounds i true).getD m false = true:=fun m hm=>by
        by_cases him:i = m
        · subst him
          exact c_J (by
            rcases Nat.lt_or_ge i listed.size with h1 | h1
            · exact h1
            · simp [Array.getD_eq_getD_getElem?,Nat.not_lt.2 h1] at hm)
        · rw [show (listed.setIfInBounds i true).getD m false = listed.getD m false from getD_set_ne false him]
          exact hm
      refine keep _ ?_
      by_cases hij:i = j
      · subst hij
        rw [ho] at hp
        obtain rfl:=Option.some.inj hp
        exact hall e he hb
      · rw [show (listed.setIfInBounds i true).getD j false = listed.getD j false from getD_set_ne false hij] at hj
        exact h.closed j p hj hp e he hb
  unfold wpOp
  simp only [ho]
  split
  · rename_i hw
    rw [if_pos hw] at hstep
    exact hstep.imp (Oper.wp_mono (fun a' w' ⟨v,e,hn,hv,hb⟩=>by subst e;exact fin v w' hn hv hb)) id
  · rename_i hw
    rw [if_neg hw] at hstep
    exact fin undef w (fun _=>rfl) hstep (hR0 _)
theorem RInvP.finish (hB:a_N ops a0.tmps.size = true) {listed:Array Bool} {a:Act} {w:World} (h:RInvP R ops n F a0 w0 listed a w) (hall:∀ i,i < n → i < ops.size → listed.getD i false = true)
    {K:Act → Prop} (hend:b_I F w K 0 (ops.toList.take n) a0):K a:=by
  have hB':=hB
  simp only [a_N,Bool.and_eq_true,decide_eq_true_eq,List.all_eq_true] at hB'
  obtain ⟨⟨hnd,hlt⟩,_⟩:=hB'
  have key:∀ (l:List Oper) (k:Nat) (b:Act),(∀ j,l[j]? = (ops.toList.take n)[k + j]?) → b.tmps.size = a.tmps.size → b.defers = a.defers →
      (∀ t,(∀ (j:Nat) (o:Oper),l[j]? = some o → o.dst ≠ some t) → b.tmps[t]? = a.tmps[t]?) → b_I F w K k l b → K a:=by
    intro l
    induction l with
    | nil =>
      intro k b _ hs hd ht he
      have:b = a:=by
        obtain ⟨bt,bd⟩:=b
        obtain ⟨at_,ad⟩:=a
        simp only at hd
        subst hd
        have:bt = at_:=Array.ext_getElem? fun t=>ht t (fun j o hj=>by simp at hj)
        rw [this]
      rw [← this]
      exact he
    | cons o l ih =>
      intro k b hl hs hd ht he
      have h00:(ops.toList.take n)[k]? = some o:=by simpa using (hl 0).symm
      have hkn:k < n:=by
        rcases Nat.lt_or_ge k n with h1 | h1
        · exact h1
        · rw [List.getElem?_take_eq_none h1] at h00;cases h00
      have h0:ops[k]? = some o:=by
        rw [List.getElem?_take_of_lt hkn] at h00
        simpa using h00
      have hl':∀ j,l[j]? = (ops.toList.take n)[k + 1 + j]?:=fun j=>by have:=hl (j + 1);rw [Nat.add_assoc,Nat.add_comm 1 j];exact this
      have hlk:listed.getD k false = true:=hall k hkn (by
        rcases Nat.lt_or_ge k ops.size with hk | hk
        · exact hk
        · rw [Array.getElem?_eq_none hk] at h0;cases h0)
      unfold b_I at he
      cases hod:o.dst with
      | none =>
        rw [hod] at he
        have he:=he (h.doneN k o hlk h0 hod)
        exact ih (k + 1) b hl' hs hd (fun t hn=>ht t (fun j p hj=>by
          match j,hj with
          | 0,hj=>simp at hj;subst hj;simp [hod]
          | j + 1,hj=>exact hn j p (by simpa using hj))) he
      | some d =>
        rw [hod] at he
        obtain ⟨v,hv,hF⟩:=h.done k o d hlk h0 hod
        refine ih (k + 1) (b.put (some d) v) hl' (by simp [Act.put,hs]) (by simp [Act.put,hd]) (fun t hn=>?_) (he v hF)
        by_cases hdt:d = t
        · subst hdt
          have hlt':d < b.tmps.size:=by rw [hs,h.tsize];exact hlt d (b_w h0 hod)
          simp [Act.put,hlt',hv]
        · simp only [Act.put]
          rw [Array.getElem?_setIfInBounds_ne hdt]
          refine ht t (fun j p hj=>?_)
          match j,hj with
          | 0,hj=>simp at hj;subst hj;simpa [hod] using hdt
          | j + 1,hj=>exact hn j p (by simpa using hj)
  refine key (ops.toList.take n) 0 a0 (by simp) h.tsize.symm h.defers.symm (fun t hn=>(h.keep t (fun i o hi ho hd=>?_)).symm) hend
  exact hn i o (by rw [List.getElem?_take_of_lt hi];simpa using ho) hd
theorem d_Q {listed:Array Bool} {a:Act} {w:World} {k:Nat} (hl:listed.size = ops.size) (hk:∀ i,listed.getD i false = true ↔ i < k ∧ i < ops.size) (hw:wpList P ops Q (ops.toList.drop k) a w) {o:Oper} (ho:ops[k]? = some o) :
    wpOp P ops Q k (fun a' w'=>(listed.setIfInBounds k true).size = ops.size ∧ (∀ i,(listed.setIfInBounds k true).getD i false = true ↔ i < k + 1 ∧ i < ops.size) ∧ wpList P ops Q (ops.toList.drop (k + 1)) a' w') a w:=by
  have hks:k < ops.size:=by
    rcases Nat.lt_or_ge k ops.size with h | h
    · exact h
    · rw [Array.getElem?_eq_none h] at ho;cases ho
  have hd:ops.toList.drop k = o :: ops.toList.drop (k + 1):=by
    rw [List.drop_eq_getElem_cons (by simpa using hks)]
    congr 1
    have:ops.toList[k]? = some o:=by simpa using ho
    rw [List.getElem?_eq_getElem (by simpa using hks)] at this
    exact Option.some.inj this
  have h1:(listed.setIfInBounds k true).size = ops.size:=by simpa using hl
  have h2:∀ i,(listed.setIfInBounds k true).getD i false = true ↔ i < k + 1 ∧ i < ops.size:=by
    intro i
    by_cases hik:k = i
    · subst hik
      rw [c_J (by omega)]
      exact ⟨fun _=>⟨by omega,hks⟩,fun _=>rfl⟩
    · rw [show (listed.setIfInBounds k true).getD i false = listed.getD i false from getD_set_ne false hik,hk i]
      constructor
      · rintro ⟨h,h'⟩;exact ⟨by omega,h'⟩
      · rintro ⟨h,h'⟩;exact ⟨by omega,h'⟩
  rw [hd] at hw
  unfold wpList at hw
  unfold wpOp
  simp only [ho]
  split
  · rename_i hw1
    rw [if_pos hw1] at hw
    exact hw.imp (Oper.wp_mono fun a' w' h=>⟨h1,h2,h⟩) id
  · rename_i hw1
    rw [if_neg hw1] at hw
    exact ⟨h1,h2,hw⟩
theorem RunAll.get {E:List Nat} {Fs:List (Value → World → Prop)} (hB:a_N ops a0.tmps.size = true) (hsel:Region.noSelect ops = true):∀ (l:List Oper) (k:Nat) (D:List (List (Nat × Nat))),
    (∀ j o,l[j]? = some o → ops[k + j]? = some o) → b_H E ops l D = true → RunAll R P ops a0 w0 Q Fs k l D → ∀ j o,l[j]? = some o → c_z E R P ops (fun i=>Fs.getD i (fun _ _=>True)) a0 w0 Q (k + j) o
  | [],_,_,_,_,_,j,o,h=>by simp at h
  | x :: l,k,[],_,_,h,_,_,_=>h.elim
  | x :: l,k,ds :: D,hl,hD,h,j,o,hj=>by
    simp only [b_H,Bool.and_eq_true] at hD
    match j,hj with
    | 0,hj =>
      simp at hj
      subst hj
      exact c_T (F:=Fs) (f:=b_e Fs k) hB hsel (hl 0 _ (by simp)) hD.1 (fun p _=>rfl) (b_v Fs k) fun W hW=>FillE.deps ds a0 (h.1 W hW)
    | j + 1,hj =>
      have:=RunAll.get hB hsel l (k + 1) D (fun i p hp=>by have:=hl (i + 1) p (by simpa using hp);simpa [Nat.add_assoc,Nat.add_comm 1 i] using this) hD.2 h.2 j o (by simpa using hj)
      rwa [Nat.add_assoc,Nat.add_comm 1 j] at this
theorem c_d {K:Nat → Prop} {l:List Oper} (n:Nat) (nxt:List Nat) (hR:Rel K R) (Fs:List (Value → World → Prop)) (D:List (List (Nat × Nat))) (hm:P.follows .mixedOrders = true) (hB:a_N l.toArray a0.tmps.size = true) (hsel:Region.noSelect l.toArray = true) (hsuf:sufB l.toArray n nxt = true)
    (hD:b_H (b_j (l.take n).toArray) l.toArray (l.take n) D = true) (hlen:Fs.length = (l.take n).length) (hst:StabL R Fs) (h:RunAll R P l.toArray a0 w0 Q Fs 0 (l.take n) D) (hend:∀ W,R w0 W → EndE W (fun a=>wpList P l.toArray Q (l.drop n) a W) Fs (l.take n) a0):WAny P l Q a0 w0:=by
  unfold WAny
  have hst':∀ (i:Nat) v w w',R w w' → (fun i=>Fs.getD i (fun _ _=>True)) i v w → (fun i=>Fs.getD i (fun _ _=>True)) i v w':=by
    intro i v w w' hb hF
    simp only [List.getD_eq_getElem?_getD] at hF ⊢
    cases hi:Fs[i]? with
    | none=>trivial
    | some f=>rw [hi] at hF;exact hst.all f (List.mem_of_getElem? hi) v w w' hb hF
  have hs:∀ i o,i < n → l.toArray[i]? = some o → c_z (b_j (l.take n).toArray) R P l.toArray (fun i=>Fs.getD i (fun _ _=>True)) a0 w0 Q i o:=by
    intro i o hi ho
    have:=RunAll.get hB hsel (l.take n) 0 D (fun j p hp=>by
      rcases Nat.lt_or_ge j n with h1 | h1
      · rw [List.getElem?_take_of_lt h1] at hp;simpa using hp
      · rw [List.getElem?_take_eq_none h1] at hp;cases hp) hD h i o (by rw [List.getElem?_take_of_lt hi];simpa using ho)
    rwa [Nat.zero_add] at this
  have hac:∀ (i:Nat) (o:Oper),l.toArray[i]? = some o → ∀ e ∈ o.after,Region.binds .any e = true → e.on < i:=by
    have hB':=hB
    simp only [a_N,Bool.and_eq_true,decide_eq_true_eq,List.all_eq_true] at hB'
    intro i o ho e he hb
    have:=hB'.2 (o,i) (by
      rw [List.mem_zipIdx_iff_getElem?]
      simpa using ho)
    simp only [Array.all_eq_true_iff_forall_mem] at this
    have:=this e he
    simpa [hb] using this
  have hfin:∀ {listed:Array Bool} {a:Act} {w:World},RInvP R l.toArray n (fun i=>Fs.getD i (fun _ _=>True)) a0 w0 listed a w → (∀ i,i < n → i < l.toArray.size → listed.getD i false = true) → wpList P l.toArray Q (l.toArray.toList.drop n) a w:=by
    intro listed a w hi hall
    refine RInvP.finish hB hi hall (K:=fun a=>wpList P l.toArray Q (l.toArray.toList.drop n) a w) ?_
    exact EndE.ok Fs _ 0 (l.take n) a0 hlen (fun j=>by rw [Nat.zero_add];exact b_v Fs j) (hend w hi.below)
  refine d_e (I:=fun listed a w=>RInvP R l.toArray n (fun i=>Fs.getD i (fun _ _=>True)) a0 w0 listed a w ∨ ∃ k,n ≤ k ∧ listed.size = l.toArray.size ∧ (∀ i,listed.getD i false = true ↔ i < k ∧ i < l.toArray.size) ∧ wpList P l.toArray Q (l.toArray.toList.drop k) a w)
    (fun listed a w i hI hi=>?_) (fun listed a w hI hr=>?_) _ _ _ _ ?_ ?_
  · obtain ⟨hun,o,ho,hall⟩:=mem_ready.1 hi
    rcases hI with hI | ⟨k,hnk,hsz,hk,hw⟩
    · rcases Nat.lt_or_ge i n with hin | hin
      · exact wpOp_mono (fun a w h=>.inl h) (RInvP.step hR.refl hR.trans hB hst' hin (fun o ho=>hs i o hin ho) hI hi)
      · have hbefore:∀ j,j < i → listed.getD j false = true:=fun j hj=>sufB.before hsuf hI.closed ho hin hall (i - j - 1) j (by omega)
        have hi_n:i = n:=by
          rcases Nat.lt_or_ge n i with h1 | h1
          · have:=hbefore n h1
            rw [hI.late n (Nat.le_refl n)] at this
            cases this
          · omega
        subst hi_n
        have hw:=hfin hI (fun j hj _=>hbefore j hj)
        refine wpOp_mono (fun a w h=>.inr ⟨i + 1,by omega,h⟩) (d_Q hI.size (fun j=>⟨fun hj=>?_,fun hj=>hbefore j hj.1⟩) hw ho)
        constructor
        · rcases Nat.lt_or_ge j i with h1 | h1
          · exact h1
          · rw [hI.late j h1] at hj;cases hj
        · rcases Nat.lt_or_ge j l.toArray.size with h1 | h1
          · exact h1
          · have:listed.size ≤ j:=by rw [hI.size];exact h1
            simp [Array.getD_eq_getD_getElem?,Nat.not_lt.2 this] at hj
    · have hil:i < l.toArray.size:=by
        rcases Nat.lt_or_ge i l.toArray.size with h | h
        · exact h
        · rw [Array.getElem?_eq_none h] at ho;cases ho
      have hki:k ≤ i:=by
        rcases Nat.lt_or_ge i k with h1 | h1
        · have:=(hk i).2 ⟨h1,hil⟩
          rw [(unlisted_lt hi).2] at this
          cases this
        · exact h1
      have:i = k:=by
        rcases Nat.lt_or_ge k i with h1 | h1
        · have hcl:c_4 l.toArray listed:=fun j p hj hp e he hb=>(hk _).2 (by
            have:=(hk j).1 hj
            have:=hac j p hp e he hb
            omega)
          have:=(hk k).1 (sufB.before hsuf hcl ho (by omega) hall (i - k - 1) k (by omega))
          omega
        · omega
      subst this
      exact wpOp_mono (fun a w h=>.inr ⟨i + 1,by omega,h⟩) (d_Q hsz hk hw ho)
  · rcases hI with hI | ⟨k,hnk,hsz,hk,hw⟩
    · have hall:=c_y hI.size hac hr
      have hw:=hfin hI (fun i _ hi=>hall i hi)
      have:l.toArray.toList.drop n = []:=by
        rw [List.drop_eq_nil_iff]
        rcases Nat.lt_or_ge n l.toArray.size with h1 | h1
        · have:=hall n h1
          rw [hI.late n (Nat.le_refl n)] at this
          cases this
        · simpa using h1
      rw [this] at hw
      exact hw
    · have hall:=c_y hsz hac hr
      have:l.toArray.toList.drop k = []:=by
        rw [List.drop_eq_nil_iff]
        rcases Nat.lt_or_ge k l.toArray.size with h1 | h1
        · have:=(hk k).1 (hall k h1)
          omega
        · simpa using h1
      rw [this] at hw
      exact hw
  · refine Nat.le_trans (List.length_filter_le _ _) (by simp)
  · have hf:∀ i,(Array.replicate l.toArray.size false).getD i false = false:=fun i=>by
      rcases Nat.lt_or_ge i l.length with hi | hi
      · simp [Array.getD_eq_getD_getElem?,hi]
      · simp [Array.getD_eq_getD_getElem?,Nat.not_lt.2 hi]
    refine .inl ⟨by simp,rfl,rfl,hR.drawn _,fun _ _=>rfl,fun i o d hl=>?_,fun i o hl=>?_,fun i _=>hf i,fun i o hl=>?_⟩
    · rw [hf i] at hl;cases hl
    · rw [hf i] at hl;cases hl
    · rw [hf i] at hl;cases hl
theorem b_g {K:Nat → Prop} {id:Nat} {l:List Oper} (n:Nat) (nxt:List Nat) (hR:Rel K R) (Fs:List (Value → World → Prop)) (D:List (List (Nat × Nat))) (hm:P.follows .mixedOrders = true) (hB:a_N l.toArray a0.tmps.size = true) (hsel:Region.noSelect l.toArray = true) (hsuf:sufB l.toArray n nxt = true)
    (hD:b_H (b_j (l.take n).toArray) l.toArray (l.take n) D = true) (hlen:Fs.length = (l.take n).length) (hst:StabL R Fs) (h:RunAll R P l.toArray a0 w0 Q Fs 0 (l.take n) D) (hend:∀ W,R w0 W → EndE W (fun a=>wpList P l.toArray Q (l.drop n) a W) Fs (l.take n) a0):(Code.region id l.toArray true).wp P Q a0 w0:=wp_region_any hm (c_d n nxt hR Fs D hm hB hsel hsuf hD hlen hst h hend)
end
structure Sto2 (t:GT) (T:TypeId) (K:Nat → Prop) (g:Nat) (xo xn:PT t) (w w':World):Prop where
  os:w'.os = w.os
  tape:w'.tape = w.tape
  output:w'.output = w.output
  size:w.heap.size ≤ w'.heap.size
  block:∀ k,k < w.heap.size → k ≠ g → w'.heap[k]? = w.heap[k]?
  two:Bx t T w K g xo ∨ Bx t T w K g xn → Bx t T w' K g xo ∨ Bx t T w' K g xn
  new:Bx t T w K g xn → Bx t T w' K g xn
section
variable {w0 w w':World} {L:List (Option Nat)} {K:Nat → Prop} {n b:Nat} {t:GT}
end
end Go.Proofs.YtjinaepmpoclaaaGreatDoor
namespace Go.Proofs.YtjinaepmpoclaaaGreatDoor
open Go.RowKit
end Go.Proofs.YtjinaepmpoclaaaGreatDoor
namespace Go.Proofs.YtjinaepmpoclaaaGreatDoor
open Go.RowKit
section
variable {w:World} {K:Nat → Prop} {b n:Nat} {f:GT} {T:TypeId} {L:List (Option Nat)}
theorem RepV.rawEq {v x:Value} (h:RepV .raw w K v x):v = x:=by
  obtain ⟨cs,⟨rfl,_⟩,rfl⟩:=h
  rfl
theorem Ow.raw {e:GT} {E:TypeId} {xs:List (PT e)} {c:Option Nat} {v:Value} (h:Ow e E w n K v xs c):∀ {K':Nat → Prop},RepV .raw w K' v v:=by
  obtain ⟨cs,h1,h2,h3⟩:=h
  rcases h1.2 with ⟨rfl,hcs⟩ | ⟨g,cap,cur,rfl,hb⟩
  · exact ⟨[_],⟨rfl,rfl⟩,rfl⟩
  · exact ⟨[_],⟨rfl,rfl⟩,rfl⟩
end
end Go.Proofs.YtjinaepmpoclaaaGreatDoor
namespace Go.Proofs.YtjinaepmpoclaaaGreatDoor
open Go.RowKit
structure NewO (w w':World) (o:Option Nat):Prop where
  below:Below w.heap.size w w'
  ge:∀ b,o = some b → w.heap.size ≤ b
  lt:∀ b,o = some b → b < w'.heap.size
section
variable {w0 w w':World} {L:List (Option Nat)} {K:Nat → Prop} {n b:Nat} {t:GT} {o:Option Nat}
theorem Kx.newO {c:Nat} (hN:NewO w w' o) (hc:c < w.heap.size) (hk:Kx K n L c):Kx K n (o :: L) c:=⟨hk.1,fun hm=>by
  rcases List.mem_cons.1 hm with e | hm
  · have:=hN.ge c e.symm;omega
  · exact hk.2 hm⟩
theorem RepV.newO {u:Value} {x:PT t} (h:RepV t w (Kx K n L) u x) (hN:NewO w w' o):RepV t w' (Kx K n (o :: L)) u x:=h.keep (Keeps.below hN.below) fun c hc hk=>Kx.newO hN hc hk
theorem Bx.newO {T:TypeId} {x:PT t} (h:Bx t T w (Kx K n L) b x) (hN:NewO w w' o):Bx t T w' (Kx K n (o :: L)) b x:=by
  have hl:=h.lt
  obtain ⟨cs,h1,h2⟩:=h
  exact ⟨cs,(hN.below.block b hl).trans h1,h2.keep (Keeps.below hN.below) fun d hc hk=>Kx.newO hN hc hk⟩
theorem Ow.newO {e:GT} {E:TypeId} {v:Value} {xs:List (PT e)} {c:Option Nat} (h:Ow e E w n (Kx K n L) v xs c) (hN:NewO w w' o):Ow e E w' n (Kx K n (o :: L)) v xs c:=by
  obtain ⟨cs,h1,h2,h3⟩:=h
  exact ⟨cs,h1.kept (row:=.none) ⟨hN.below.os,hN.below.tape,hN.below.output,hN.below.size,fun k hk _=>hN.below.block k hk⟩ (by cases hv:v.ownBlock <;> simp),h2.keep (Keeps.below hN.below) fun d hc hk=>Kx.newO hN hc hk,h3⟩
theorem Wd.newO (h:Wd w0 w L) (hN:NewO w w' o):Wd w0 w' (o :: L):=by
  have hs:=hN.below.size
  refine ⟨h.below.trans (hN.below.mono h.below.size),fun c hm=>?_,List.pairwise_cons.2 ⟨fun x hx=>?_,h.dis⟩⟩
  · rcases List.mem_cons.1 hm with e | hm
    · have:=hN.ge c e.symm;have:=hN.lt c e.symm;have:=h.below.size;exact ⟨by omega,by omega⟩
    · have:=h.own c hm;exact ⟨this.1,by omega⟩
  · cases ho:o with
    | none=>exact .inl rfl
    | some b =>
      refine .inr fun e=>?_
      have:=(h.own b (e ▸ hx)).2
      have:=hN.ge b ho
      omega
theorem b_l {e:GT} {E:TypeId} {v:Value} {xs:List (PT e)} {c:Option Nat} {m:Nat} {K':Nat → Prop} (h:Ow e E w' m K' v xs c) (hm:w.heap.size ≤ m) (hb:Below w.heap.size w w'):NewO w w' v.ownBlock:=by
  obtain ⟨cs,h1,_⟩:=h
  exact ⟨hb,fun b hv=>Nat.le_trans hm (h1.lt b hv).1,fun b hv=>(h1.lt b hv).2⟩
theorem Kx.backO {c:Nat} (hW:Wd w0 w L) (hk:Kx (Kx K w0.heap.size L) w.heap.size [o] c):Kx K w0.heap.size (o :: L) c:=by
  obtain ⟨h1,h2⟩:=hk
  have h2':some c ≠ o:=fun e=>h2 (by rw [e];exact List.mem_cons_self ..)
  rcases h1 with h1 | h1
  · exact ⟨h1.1,fun hm=>by
      rcases List.mem_cons.1 hm with e | hm
      · exact h2' e
      · exact h1.2 hm⟩
  · refine ⟨.inr (by have:=hW.below.size;omega),fun hm=>?_⟩
    rcases List.mem_cons.1 hm with e | hm
    · exact h2' e
    · have:=(hW.own c hm).2;omega
theorem RepV.backO {u:Value} {x:PT t} (h:RepV t w' (Kx (Kx K w0.heap.size L) w.heap.size [o]) u x) (hW:Wd w0 w L):RepV t w' (Kx K w0.heap.size (o :: L)) u x:=h.keep (Keeps.refl _ _) fun c _ hk=>Kx.backO hW hk
theorem Ow.backO {e:GT} {E:TypeId} {v:Value} {xs:List (PT e)} {c:Option Nat} (h:Ow e E w' w.heap.size (Kx (Kx K w0.heap.size L) w.heap.size [o]) v xs c) (hW:Wd w0 w L):Ow e E w' w0.heap.size (Kx K w0.heap.size (o :: L)) v xs c:=by
  obtain ⟨cs,h1,h2,h3⟩:=h
  refine ⟨cs,⟨h1.1,?_⟩,h2.keep (Keeps.refl _ _) fun c _ hk=>Kx.backO hW hk,h3⟩
  rcases h1.2 with h4 | ⟨g,cap,cur,e1,e2,e3⟩
  · exact .inl h4
  · exact .inr ⟨g,cap,cur,e1,by have:=hW.below.size;omega,e3⟩
theorem Ow.pub0 {e:GT} {E:TypeId} {v:Value} {xs:List (PT e)} {c:Option Nat} (h:Ow e E w n (Kx K n [v.ownBlock]) v xs c):RepV (.sl e) w (Kx K n []) v ⟨xs,c⟩:=h.pub (List.nil_sublist _) fun _ _ hm=>(List.not_mem_nil hm).elim
theorem Ow.lessO {e:GT} {E:TypeId} {v:Value} {xs:List (PT e)} {c:Option Nat} (h:Ow e E w n (Kx K n L) v xs c) (i:Nat) (hi:L[i]? = some o):Ow e E w n (Kx K n [o]) v xs c:=h.less (List.singleton_sublist.2 (List.mem_of_getElem? hi))
end
theorem c_e {P:Program} (w:World) (base:Nat) (t tn ty e:TypeId) (i:TypeInfo) (z:Value) (kn kq:IntKind) (ht:P.underlying t = some (.slice e)) (htn:P.underlying tn = some (.int kn)) (hi:P.info? e = some i) (hz:i.zero = some z)
    (hzs:z.cells.size = i.size) (hsz:0 < i.size) (hone:∀ u ∈ z.cells.toList,u.oneCell' = true)
    (v:Value) (n:Nat) (xs:List Value) (hown:w.ownsRow base e i.size v n xs)
    (m:Nat) (h63:n + m ≤ maxLen) (hbytes:(n + m) * i.bytes ≤ 140737488355328) (hbase:base ≤ w.heap.size) :
    ∃ v' w',(Builtin.append_ #[t,tn] ty #[v,.int kq m]).run P w = .ok v' w' ∧ w'.ownsRow base e i.size v' (n + m) (xs ++ (List.replicate m z.cells.toList).flatten) ∧ w.grownBy w' v.ownBlock ∧
      (v'.ownBlock = v.ownBlock ∨ v'.ownBlock = some w.heap.size) ∧ (∀ q A' k',v = .slice A' k' q → n + m ≤ q → ∃ B k'',v' = .slice B k'' q):=by
  have hsmall:n + m ≤ 9223372036854775807:=by simp only [maxLen] at h63;omega
  have hnews:(Builtin.zeroCells z.cells m).toList = (List.replicate m z.cells.toList).flatten:=by
    have h0:Builtin.zeroCells z.cells m = (List.replicate m z.cells.toList).flatten.toArray:=by
      have:=c_W z.cells.toList (by simp [hzs];omega) m
      simpa [Builtin.zeroCells] using this
    rw [h0]
  have hl:(List.replicate m z.cells.toList).flatten.length = m * i.size:=by simp [hzs]
  have hlen:(xs ++ (List.replicate m z.cells.toList).flatten).length = (n + m) * i.size:=by rw [List.length_append,hown.1,hl,Nat.add_mul]
  have hone':∀ u ∈ (List.replicate m z.cells.toList).flatten,u.oneCell' = true:=by
    intro u hu
    obtain ⟨c,hc,hu⟩:=List.mem_flatten.1 hu
    rw [(List.mem_replicate.1 hc).2] at hu
    exact hone u hu
  have grown:∀ (old:Nat),old < n + m → ∀ (row:Option Nat),
      (w.drew.alloc (.cells (xs.toArray ++ Builtin.zeroCells z.cells m ++ Builtin.zeroCells z.cells (grownCap w (n + m) old e - (n + m))) e)).ownsRow base e i.size
        (.slice (some ⟨w.heap.size,0,none⟩) (n + m) (grownCap w (n + m) old e)) (n + m) (xs ++ (List.replicate m z.cells.toList).flatten) ∧
      w.grownBy (w.drew.alloc (.cells (xs.toArray ++ Builtin.zeroCells z.cells m ++ Builtin.zeroCells z.cells (grownCap w (n + m) old e - (n + m))) e)) row:=by
    intro old ho row
    have hge:=grownCap_ge w (n + m) old e
    have hcm:grownCap w (n + m) old e ≤ maxLen:=grownCap_le_maxLen w (n + m) old e h63
    refine ⟨⟨hlen,.inr ⟨w.heap.size,_,_,rfl,hbase,heap_alloc_new w.drew _,hge,hcm,?_,?_⟩⟩,⟨rfl,rfl,rfl,by simp,fun k hk _=>by first | exact heap_alloc_old w.drew _ hk | exact heap_alloc_old w.drew _ k hk⟩⟩
    · simp only [Array.size_append,List.size_toArray,size_zeroCells,hzs,hown.1,← Nat.add_mul]
      congr 1
      omega
    · simp only [Array.toList_append,List.append_assoc,hnews]
      rw [← List.append_assoc,← hlen]
      exact List.take_left
  have hw:IntKind.i64.wrap (m:Int) = m:=by rw [IntKind.wrap_i64];omega
  have hneg:¬ ((m:Int) < 0):=by omega
  have h48:m * i.bytes ≤ 281474976710656:=by
    have:m * i.bytes ≤ (n + m) * i.bytes:=Nat.mul_le_mul_right _ (by omega)
    omega
  have h48i:¬ (281474976710656 < (m:Int) * (i.bytes:Int)):=by
    rw [← Int.natCast_mul]
    omega
  rcases hown.2 with ⟨rfl,rfl⟩ | ⟨g,cap,cur,rfl,hbg,hg,hnc,hcm,hcs,htake⟩
  · have hx:xs = []:=List.eq_nil_of_length_eq_zero (by simpa using hown.1)
    subst hx
    by_cases hm:m = 0
    · subst hm
      refine ⟨.slice none 0 0,w,?_,by simpa using World.ownsRow_nil w base e i.size,⟨rfl,rfl,rfl,Nat.le_refl _,fun _ _ _=>rfl⟩,.inl rfl,fun q A' k' hv _=>⟨A',k',hv⟩⟩
      have hw0:IntKind.i64.wrap 0 = 0:=rfl
      simp [Builtin.append_,run_underlying ht,run_underlying htn,sizeOf,typeInfo,hi,asInt,asIntOf,hw0]
    · have hr:=Lib.run_append_nil_zeros (P:=P) w t tn ty e i z kq kn ht htn hi hz m (by omega) hsz (by omega) h48
      have hgr:=grown 0 (by omega) (Value.ownBlock (.slice none 0 0))
      simp only [Nat.zero_add,List.nil_append] at hgr ⊢
      refine ⟨_,_,hr,by simpa using hgr.1,by simpa using hgr.2,.inr rfl,fun q A' k' hv hq=>?_⟩
      injection hv with e1 e2 e3
      omega
  · by_cases hroom:n + m ≤ cap
    · have hfit:n * i.size + m * i.size ≤ cur.size:=by rw [hcs,← Nat.add_mul];exact Nat.mul_le_mul_right _ hroom
      have hst:=run_storeCells_at P g (n * i.size) e (List.replicate m z.cells.toList).flatten 0 cur w hg (by rw [hl];simpa using hfit) hone'
      simp only [Nat.add_zero] at hst
      have hr:(Builtin.append_ #[t,tn] ty #[.slice (some ⟨g,0,none⟩) n cap,.int kq m]).run P w =
          .ok (.slice (some ⟨g,0,none⟩) (n + m) cap) (w.setRow g (cur.toList.take (n * i.size) ++ (List.replicate m z.cells.toList).flatten ++ cur.toList.drop (n * i.size + (List.replicate m z.cells.toList).flatten.length)).toArray):=by
        by_cases hm0:m = 0
        · subst hm0
          simp only [List.replicate_zero,List.flatten_nil] at hst
          have hw0:IntKind.i64.wrap 0 = 0:=rfl
          simp [Builtin.append_,run_underlying ht,run_underlying htn,sizeOf,typeInfo,hi,asInt,asIntOf,hw0,hnc,Addr.add_lit,hst]
        · have hns:¬ (m * i.size = 0):=Nat.mul_ne_zero hm0 (by omega)
          simp only [← hnews] at hst ⊢
          simp [Builtin.append_,run_underlying ht,run_underlying htn,sizeOf,typeInfo,zeroValue,hi,hz,asInt,asIntOf,hw,hneg,hns,h48i,hroom,Addr.add_lit,hst]
      refine ⟨_,_,hr,⟨hlen,.inr ⟨g,cap,_,rfl,hbg,setRow_heap w g cur _ e _ hg,hroom,hcm,?_,?_⟩⟩,⟨rfl,rfl,rfl,by simp,fun k _ hk=>setRow_other w g k _ (fun e=>hk (by simp [Value.ownBlock,e]))⟩,.inl rfl,fun q A' k' hv _=>?_⟩
      · simp only [List.size_toArray,List.length_append,List.length_take,List.length_drop,Array.length_toList]
        omega
      · rw [htake,← hlen]
        exact List.take_left
      · injection hv with e1 e2 e3
        exact ⟨_,_,by rw [e3]⟩
    · have holds:∀ j u,xs[j]? = some u → w.cell? ((⟨g,0,none⟩:Addr).add j) = some u:=hown.cells (g:=g) rfl
      have hm0:0 < m:=by omega
      have hold:(Builtin.firstCells i.size n (.slice (some ⟨g,0,none⟩) n cap)).run P w.drew = .ok xs.toArray w.drew:=run_firstCells_some (P:=P) w.drew i.size n ⟨g,0,none⟩ n cap xs hown.1 holds
      have hr:=Lib.run_append_grow_zeros (P:=P) w t tn ty e i z kq kn ht htn hi hz (some ⟨g,0,none⟩) n cap xs hold m hm0 hsz (by omega) (by omega) h48 (growslice_fits (by omega) hbytes)
      have hgr:=grown cap (by omega) (Value.ownBlock (.slice (some ⟨g,0,none⟩) n cap))
      refine ⟨_,_,hr,hgr.1,hgr.2,.inr rfl,fun q A' k' hv hq=>?_⟩
      injection hv with e1 e2 e3
      omega
def appZ {α:Type} (xs:List α) (k:Int) (z:α):Option (List α):=if 0 ≤ k ∧ xs.length + k.toNat ≤ 1099511627776 then some (xs ++ List.replicate k.toNat z) else .none
section
variable {ds:List Deferred} {N:Nat} {a:Act} {l:List (Nat × Value)} {w w0:World} {P:Program} {ops:Array Oper} {Q:Exit → Act → World → Prop} {rest:List Oper} {o:Oper} {Kont:Act → World → Prop} {d:Nat} {K:Nat → Prop} {n:Nat} {L:List (Option Nat)}
theorem c_f (S:StD ds N a l) (W:Wd w0 w L) {s x:Operand} {T TN E:TypeId} {e:GT} {v:Value} {xs r:List (PT e)} {c:Option Nat} {kn kq:IntKind} {m:Int} {z0:PT e} (i:Nat) (z:Value) (ho:o.op = .call { callee:=.builtin .append,args:=#[s,x],argTypes:=#[T,TN] }) (ht:tiQ P (.sl e) false T [] 0 = true) (htn:tiQ P (.int kn) false TN [] 0 = true) (hE:P.underlying T = some (.slice E)) (hby:bytesB P T e = true) (hz:(P.info? E).bind (·.zero) = some z) (Rz:∀ w K,RepCs e w K z.cells.toList z0) (hd:o.dst = some d) (hN:Nat.blt d N = true)
    (hs:ev l s = some v) (hx:ev l x = some (.int kq m)) (O:Ow e E w w0.heap.size (Kx K w0.heap.size L) v xs c) (hi:L[i]? = some v.ownBlock) (hr:appZ xs m z0 = some r)
    (k:∀ a' w' v',Apd w w' v v' → Ow e E w' w0.heap.size (Kx K w0.heap.size (L.set i v'.ownBlock)) v' r (b_O c r.length) → StD ds N a' ((d,v') :: l) → Kont a' w'):o.wp P a w Kont Q:=by
  obtain ⟨cs,h1,h2,h3⟩:=O
  obtain ⟨E',hE',htE⟩:=a_V ht
  obtain rfl:E = E':=by rw [hE] at hE';injection hE' with h;injection h
  obtain ⟨ie,hie,hse⟩:=a_u htE
  unfold bytesB at hby
  rw [hE] at hby
  simp only [hie,Option.any_some,Bool.and_eq_true,Nat.blt_eq,Nat.ble_eq] at hby
  obtain ⟨hsz,hbytes,_⟩:=hby
  have hz0:ie.zero = some z:=by rw [hie] at hz;exact hz
  have hzl:z.cells.size = e.sz:=by have:=(Rz w K).len;simpa using this
  unfold appZ at hr
  by_cases hc:0 ≤ m ∧ xs.length + m.toNat ≤ 1099511627776
  · rw [if_pos hc] at hr
    obtain rfl:=Option.some.inj hr
    obtain ⟨mn,rfl⟩:∃ mn:Nat,m = mn:=⟨m.toNat,by omega⟩
    have hle:=hc.2
    simp only [Int.toNat_natCast] at hle k ⊢
    obtain ⟨v',w',hrun,a1,a2,a4,a5⟩:=c_e (P:=P) w w0.heap.size T TN o.type E ie z kn kq hE (a_Q htn) hie hz0 (by rw [hzl,hse]) (by rw [hse];exact hsz) (fun u hu=>(Rz w K).one u hu) v xs.length cs (by rw [hse];exact h1) mn (by simp only [maxLen];omega) (by
      have:(xs.length + mn) * ie.bytes ≤ 1099511627776 * 128:=Nat.mul_le_mul (by omega) hbytes
      omega) W.below.size
    have hap:Apd w w' v v':=⟨a2,a4,fun q hq=>(a1.lt q hq).2⟩
    have hlen:(xs ++ List.replicate mn z0).length = xs.length + mn:=by simp
    refine a_s S (v:=v') (w':=w') hd hN (by simp [execOp,ho,resolve,invoke,builtin,S.eval hs,S.eval hx,hrun]) fun a'=>k a' w' v' hap ⟨_,by rw [hlen,← hse];exact a1,?_,?_⟩
    · have hrep:=a_C (Rz w (Kx K w0.heap.size L)) mn
      rw [List.length_replicate] at hrep
      exact (b_X h2 hrep).keep (hap.keeps hi) (hap.kk hi)
    · intro q hq
      unfold b_O at hq
      cases hcc:c with
      | none=>rw [hcc] at hq;cases hq
      | some q' =>
        rw [hcc] at hq
        simp only at hq
        split at hq
        · rename_i hqq
          obtain rfl:=Option.some.inj hq
          obtain ⟨B,k',hv⟩:=h3 q' hcc
          rw [hlen] at hqq
          exact a5 q' B k' hv hqq
        · cases hq
  · rw [if_neg hc] at hr
    cases hr
def cutI {α:Type} (xs:List α) (q:Int):Option (List α):=if 0 ≤ q ∧ q ≤ xs.length then some (xs.take q.toNat) else .none
theorem c_X (S:StD ds N a l) {T E:TypeId} {x:Operand} {hi:Option Operand} {e:GT} {v:Value} {xs r:List (PT e)} {c:Option Nat} {q:Int} (ho:o.op = .slice T x .none hi .none) (ht:tiQ P (.sl e) false T [] 0 = true) (hE:P.underlying T = some (.slice E)) (hd:o.dst = some d) (hN:Nat.blt d N = true)
    (hx:ev l x = some v) (O:Ow e E w n (Kx K n L) v xs c) (hhi:(hi = .none ∧ q = (xs.length:Int)) ∨ ∃ x k,hi = some x ∧ ev l x = some (.int k q)) (hr:cutI xs q = some r)
    (k:∀ a' v',v'.ownBlock = v.ownBlock → Ow e E w n (Kx K n L) v' r c → StD ds N a' ((d,v') :: l) → Kont a' w):o.wp P a w Kont Q:=by
  obtain ⟨cs,h1,h2,h3⟩:=O
  obtain ⟨E',hE',htE⟩:=a_V ht
  obtain rfl:E = E':=by rw [hE] at hE';injection hE' with h;injection h
  obtain ⟨ie,hie,hse⟩:=a_u htE
  unfold cutI at hr
  by_cases hc:0 ≤ q ∧ q ≤ xs.length
  · rw [if_pos hc] at hr
    obtain rfl:=Option.some.inj hr
    obtain ⟨c0,c1⟩:=hc
    have hcap:∃ A cap,v = .slice A xs.length cap ∧ xs.length ≤ cap ∧ (A = .none ∨ ∃ g,A = some ⟨g,0,.none⟩):=by
      rcases h1.2 with ⟨e1,e2⟩ | ⟨g,cap,cur,e1,e2,e3,e4,_⟩
      · exact ⟨.none,0,by rw [e1,e2],by omega,.inl rfl⟩
      · exact ⟨_,cap,e1,e4,.inr ⟨g,rfl⟩⟩
    obtain ⟨A,cap,rfl,hle,hA⟩:=hcap
    have hrun:(Instr.sliceAt T (.slice A xs.length cap) .none (hi.map a.eval) .none).run P w = .ok (.slice A q.toNat cap) w:=by
      have q2:q ≤ (cap:Int):=by omega
      rcases hhi with ⟨rfl,rfl⟩ | ⟨y',k',rfl,hy'⟩
      · rcases hA with rfl | ⟨g,rfl⟩ <;> simp [Instr.sliceAt,Instr.slice,Instr.sliceBounds,run_underlying hE,sizeOf,typeInfo,hie,hse,Addr.add_lit]
      · rcases hA with rfl | ⟨g,rfl⟩ <;> simp [Instr.sliceAt,Instr.slice,Instr.sliceBounds,Instr.sliceBound,asIntOf,run_underlying hE,sizeOf,typeInfo,hie,hse,S.eval hy',c0,q2,Addr.add_lit]
    have hcsl:=h2.len
    simp only [GT.sz] at hcsl
    refine a_s S (v:=.slice A q.toNat cap) hd hN (by simp [execOp,ho,S.eval hx,hrun]) fun a'=>k a' _ (by cases A <;> rfl) ⟨cs.take (q.toNat * e.sz),⟨?_,?_⟩,?_,fun p hp=>?_⟩
    · rw [List.length_take,List.length_take,hcsl]
      have:q.toNat * e.sz ≤ xs.length * e.sz:=Nat.mul_le_mul_right _ (by omega)
      rw [Nat.min_eq_left this,Nat.min_eq_left (by omega)]
    · have hl:(xs.take q.toNat).length = q.toNat:=by rw [List.length_take];omega
      rcases h1.2 with ⟨e1,e2⟩ | ⟨g,cap',cur,e1,e2,e3,e4,e5,e6,e7⟩
      · injection e1 with f1 f2 f3
        subst f1;subst f3
        have:q.toNat = 0:=by omega
        exact .inl ⟨by rw [this],by rw [hl,this]⟩
      · injection e1 with f1 f2 f3
        subst f1;subst f3
        refine .inr ⟨g,_,cur,by rw [hl],e2,e3,by rw [hl];omega,e5,e6,?_⟩
        rw [hl,← e7,List.take_take,Nat.min_eq_left (Nat.mul_le_mul_right _ (by omega))]
    · obtain ⟨hx,css,hcs,hcl,hrr⟩:=h2
      have hl:(xs.take q.toNat).length = q.toNat:=by rw [List.length_take];omega
      have hz:∀ c ∈ css,c.length = e.sz:=by
        intro c hcm
        obtain ⟨j,hj⟩:=List.getElem?_of_mem hcm
        have hjl:j < xs.length:=by have:=(List.getElem?_eq_some_iff.1 hj).1;omega
        exact (hrr j c _ hj (List.getElem?_eq_getElem hjl)).len
      have key:∀ (l:List (List Value)) (m:Nat),(∀ c ∈ l,c.length = e.sz) → l.flatten.take (m * e.sz) = (l.take m).flatten:=by
        intro l
        induction l with
        | nil=>intro m _;simp
        | cons c l ih =>
          intro m hc
          cases m with
          | zero=>simp
          | succ m =>
            have h0:=hc c (by simp)
            rw [List.flatten_cons,List.take_succ_cons,List.flatten_cons,List.take_append,h0,← ih m fun d hd=>hc d (by simp [hd])]
            rw [List.take_of_length_le (by rw [h0,Nat.add_mul];omega)]
            congr 2
            rw [Nat.add_mul]
            omega
      refine ⟨rfl,css.take q.toNat,by rw [hcs];exact key css _ hz,by rw [List.length_take,hl];omega,fun j c y hc hy=>?_⟩
      rw [List.getElem?_take] at hc hy
      split at hc
      · rename_i hlt
        rw [if_pos hlt] at hy
        exact hrr j c y hc hy
      · cases hc
    · obtain ⟨A',m',e1⟩:=h3 p hp
      injection e1 with f1 f2 f3
      exact ⟨_,_,by rw [f3]⟩
  · rw [if_neg hc] at hr
    cases hr
end
end Go.Proofs.YtjinaepmpoclaaaGreatDoor
namespace Go.Proofs.YtjinaepmpoclaaaGreatDoor
open Go.RowKit
def Br (g:GT) (w:World) (K:Nat → Prop) (p:Addr) (x:PT g):Prop:=RepAt g w K p x ∧ p.block < w.heap.size
section
variable {w0 w w':World} {L:List (Option Nat)} {K:Nat → Prop} {n b:Nat} {g t:GT} {p:Addr}
theorem Br.now {x:PT g} (h:Br g w0 K p x) (W:Wd w0 w L):RepAt g w (Kx K w0.heap.size L) p x :=
  h.1.keep (Keeps.below W.below) (fun b hb hK=>⟨.inl hK,fun hm=>by have:=(W.own b hm).1;omega⟩) fun i _=>(Keeps.below (K:=fun _=>True) W.below).2 ⟨p.block,p.off + i,.none⟩ h.2 trivial
theorem Br.again {x:PT g} (h:Br g w0 K p x) (W:Wd w0 w L):Br g w (Kx K w0.heap.size L) p x:=⟨h.now W,by have:=W.below.size;have:=h.2;omega⟩
theorem Bx.br {T:TypeId} {x:PT g} (h:Bx g T w K b x):Br g w K ⟨b,0,.none⟩ x:=⟨h.at_,h.lt⟩
structure Mk (n:Nat) (L:List (Option Nat)) (w w':World):Prop where
  os:w'.os = w.os
  tape:w'.tape = w.tape
  output:w'.output = w.output
  size:w.heap.size ≤ w'.heap.size
  old:∀ k,k < w.heap.size → (k < n ∨ some k ∈ L) → w'.heap[k]? = w.heap[k]?
  cells:∀ p:Addr,p.block < w.heap.size → w'.cell? p = w.cell? p
theorem Mk.rel (n:Nat) (L:List (Option Nat)) (K:Nat → Prop):Rel K (Mk n L) :=
  ⟨fun w=>⟨rfl,rfl,rfl,Nat.le_refl _,fun _ _ _=>rfl,fun _ _=>rfl⟩,
   fun a b c h k=>⟨k.os.trans h.os,k.tape.trans h.tape,k.output.trans h.output,Nat.le_trans h.size k.size,fun i hi hm=>(k.old i (Nat.lt_of_lt_of_le hi h.size) hm).trans (h.old i hi hm),fun p hp=>(k.cells p (Nat.lt_of_lt_of_le hp h.size)).trans (h.cells p hp)⟩,
   fun w=>⟨rfl,rfl,rfl,Nat.le_refl _,fun _ _ _=>rfl,fun _ _=>rfl⟩,
   fun a b h=>⟨h.os,h.tape,h.output,h.size,h.size,fun p hp _=>h.cells p hp⟩,
   fun a b h=>⟨h.os,h.tape,h.output,h.size,fun k hk _=>h.block k hk,fun p hp=>h.cell hp⟩⟩
theorem RepV.mk_ {u:Value} {x:PT t} (h:RepV t w K u x) (hm:Mk n L w w'):RepV t w' K u x:=h.keep ⟨hm.size,fun p hp _=>hm.cells p hp⟩ fun _ _ h=>h
theorem Bx.mk_ {T:TypeId} {x:PT t} (h:Bx t T w K b x) (hm:Mk n L w w') (hb:some b ∈ L):Bx t T w' K b x:=by
  have hl:=h.lt
  obtain ⟨cs,h1,h2⟩:=h
  exact ⟨cs,(hm.old b hl (.inr hb)).trans h1,h2.keep ⟨hm.size,fun p hp _=>hm.cells p hp⟩ fun _ _ h=>h⟩
theorem Ow.mk_ {e:GT} {E:TypeId} {v:Value} {xs:List (PT e)} {c:Option Nat} {m:Nat} (h:Ow e E w m K v xs c) (hm:Mk n L w w') (i:Nat) (hi:L[i]? = some v.ownBlock):Ow e E w' m K v xs c:=by
  obtain ⟨cs,h1,h2,h3⟩:=h
  refine ⟨cs,⟨h1.1,?_⟩,h2.keep ⟨hm.size,fun p hp _=>hm.cells p hp⟩ fun _ _ h=>h,h3⟩
  rcases h1.2 with h4 | ⟨g,cap,cur,e1,e2,e3,e4⟩
  · exact .inl h4
  · refine .inr ⟨g,cap,cur,e1,e2,(hm.old g (Array.getElem?_eq_some_iff.1 e3).1 (.inr ?_)).trans e3,e4⟩
    rw [e1] at hi
    exact List.mem_of_getElem? hi
theorem Wd.mk_ (h:Wd w0 w L) (hm:Mk w0.heap.size L w w'):Wd w0 w' L :=
  ⟨h.below.trans ⟨hm.os,hm.tape,hm.output,hm.size,fun k hk=>hm.old k (by have:=h.below.size;omega) (.inl hk)⟩,fun c hc=>⟨(h.own c hc).1,by have:=(h.own c hc).2;have:=hm.size;omega⟩,h.dis⟩
end
section
variable {ds:List Deferred} {N:Nat} {a:Act} {l:List (Nat × Value)} {w w0:World} {P:Program} {ops:Array Oper} {Q:Exit → Act → World → Prop} {rest:List Oper} {o:Oper} {Kont:Act → World → Prop} {d:Nat} {K:Nat → Prop} {n:Nat} {L:List (Option Nat)}
theorem op_mark (S:StD ds N a l) (W:Wd w0 w L) {T:TypeId} {x:Operand} {v:Value} {xs:Sl Int} (ho:o.op = .convert T T x) (ht:tiQ P (.sl (.int .u8)) false T [] 0 = true) (hd:o.dst = some d) (hN:Nat.blt d N = true)
    (hx:ev l x = some v) (hne:xs.xs.isEmpty = false) (R:RepV (.sl (.int .u8)) w (Kx NoK w0.heap.size L) v xs)
    (k:∀ a' w',Mk w0.heap.size L w w' → RepV (.sl (.int .u8)) w' (Kx NoK w0.heap.size L) v xs → StD ds N a' ((d,v) :: l) → Kont a' w'):o.wp P a w Kont Q:=by
  obtain ⟨E,hE,htE⟩:=a_V ht
  have R0:=R
  obtain ⟨A,n0,c,rfl,h1,h2,h3,h4,h5⟩:=R.sl
  rcases h5 with h5 | ⟨b,off,rfl,hb,hK,hc⟩
  · rw [h5] at hne;cases hne
  · obtain ⟨y,ys,hy⟩:∃ y ys,xs.xs = y :: ys:=by
      cases hxs:xs.xs with
      | nil=>rw [hxs] at hne;cases hne
      | cons y ys=>exact ⟨y,ys,rfl⟩
    have hbn:w0.heap.size ≤ b:=hK.1.resolve_left id
    have hcell:∃ u,w.cell? ⟨b,off,.none⟩ = some u:=by
      obtain ⟨cs,r1,r2,r3⟩:=hc 0 y (by rw [hy];rfl)
      obtain ⟨u,hu⟩:∃ u,cs[0]? = some u:=by
        cases cs with
        | nil=>cases r2
        | cons u us=>exact ⟨u,rfl⟩
      exact ⟨u,by simpa using r3 0 u hu⟩
    obtain ⟨C,e,fr,hrow⟩:∃ C e fr,w.heap[b]? = some (.cells C e fr):=by
      obtain ⟨u,hu⟩:=hcell
      unfold World.cell? at hu
      cases hh:w.heap[b]? with
      | none=>simp [hh] at hu
      | some ob =>
        cases ob with
        | cells C e fr=>exact ⟨C,e,fr,rfl⟩
        | _=>simp [hh] at hu
    have hsh:w.shape? b = some (e,C.size):=by
      unfold World.shape?
      rw [hrow]
    have hM:Mk w0.heap.size L w (w.freeze ⟨b,C.size,.none⟩ 1):=by
      have hother:∀ k,k ≠ b → (w.freeze ⟨b,C.size,.none⟩ 1).heap[k]? = w.heap[k]?:=by
        intro k hk
        simp [World.freeze,Array.getElem?_modify,Ne.symm hk]
      refine ⟨rfl,rfl,rfl,by simp [World.freeze],fun k hk hm=>hother k ?_,fun p hp=>?_⟩
      · rintro rfl
        rcases hm with hm | hm
        · omega
        · exact hK.2 hm
      · by_cases hpb:p.block = b
        · have:∃ fr',(w.freeze ⟨b,C.size,.none⟩ 1).heap[b]? = some (.cells C e fr'):=by
            obtain ⟨lo,hi⟩:=fr
            exact ⟨if (lo == hi) = true then (C.size,C.size + 1) else (min lo C.size,max hi (C.size + 1)),by simp [World.freeze,Array.getElem?_modify,hrow]⟩
          obtain ⟨fr',this⟩:=this
          unfold World.cell?
          rw [hpb,this,hrow]
        · unfold World.cell?
          rw [hother p.block hpb]
    refine a_s S (v:=.slice (some ⟨b,off,.none⟩) n0 c) (w':=w.freeze ⟨b,C.size,.none⟩ 1) hd hN ?_ fun a'=>k a' _ hM (R0.mk_ hM)
    simp [execOp,ho,S.eval hx,convert,run_underlying hE,run_underlying (a_Q htE),markStringish,hsh]
theorem op_row0 (S:StD ds N a l) (W:Wd w0 w L) {T E:TypeId} {e:GT} (ho:o.op = .buildSlice T 0 #[]) (ht:tiQ P (.sl e) false T [] 0 = true) (hE:P.underlying T = some (.slice E)) (hd:o.dst = some d) (hN:Nat.blt d N = true)
    (k:∀ a' w' b,NewB w w' b → Ow e E w' w0.heap.size (Kx K w0.heap.size (some b :: L)) (.slice (some ⟨b,0,.none⟩) 0 0) [] (some 0) → StD ds N a' ((d,.slice (some ⟨b,0,.none⟩) 0 0) :: l) → Kont a' w'):o.wp P a w Kont Q:=by
  obtain ⟨E',hE',htE⟩:=a_V ht
  obtain rfl:E = E':=by rw [hE] at hE';injection hE' with h;injection h
  obtain ⟨ie,hie,hse⟩:=a_u htE
  have hb:=a_U w (.cells #[] E)
  have hrun:(Instr.buildSlice T 0 #[]).run P w = .ok (.slice (some ⟨w.heap.size,0,.none⟩) 0 0) (w.alloc (.cells #[] E)):=by
    simp [Instr.buildSlice,run_underlying hE,sizeOf,typeInfo,hie,Instr.fill,newRow]
    rw [show Array.range 0 = #[] from rfl,Array.map_empty]
  refine a_s S (v:=.slice (some ⟨w.heap.size,0,.none⟩) 0 0) (w':=w.alloc (.cells #[] E)) hd hN (by simp [execOp,ho,hrun]) fun a'=>k a' _ w.heap.size hb ⟨[],⟨by simp,.inr ⟨w.heap.size,0,#[],rfl,W.below.size,heap_alloc_new w _,by simp,by simp,by simp,by simp⟩⟩,⟨rfl,[],rfl,rfl,fun j c y h=>by simp at h⟩,fun q hq=>by obtain rfl:=Option.some.inj hq;exact ⟨_,_,rfl⟩⟩
end
section
variable {ds:List Deferred} {N:Nat} {a:Act} {l:List (Nat × Value)} {w w0:World} {P:Program} {ops:Array Oper} {Q:Exit → Act → World → Prop} {rest:List Oper} {o:Oper} {Kont:Act → World → Prop} {d:Nat} {K:Nat → Prop} {n:Nat} {L:List (Option Nat)}
theorem op_eqnil (S:StD ds N a l) {T T':TypeId} {x:Operand} {e:GT} {v:Value} {xs:Sl (PT e)} (ho:o.op = .binOp .eql T x (.const (.slice .none 0 0)) T') (ht:tiQ P (.sl e) false T [] 0 = true) (hd:o.dst = some d) (hN:Nat.blt d N = true)
    (hx:ev l x = some v) (R:RepV (.sl e) w K v xs) (k:∀ a' b,(b = true → xs.xs = []) → StD ds N a' ((d,.bool b) :: l) → Kont a' w):o.wp P a w Kont Q:=by
  obtain ⟨E,hE,htE⟩:=a_V ht
  obtain ⟨A,n0,c,rfl,h1,h2,h3,h4,h5⟩:=R.sl
  have hc:a.eval (.const (.slice .none 0 0)) = .slice .none 0 0:=rfl
  have he0:∀ d,(Op.equalIn (d + 1) T (.slice A n0 c) (.slice .none 0 0)).run P w = .ok A.isNone w:=by
    intro d
    cases A with
    | none=>simp [Op.equalIn,run_underlying hE]
    | some A=>simp [Op.equalIn,run_underlying hE]
  have he:(Op.equalIn 10000 T (.slice A n0 c) (.slice .none 0 0)).run P w = .ok A.isNone w:=he0 9999
  refine a_s S (v:=.bool A.isNone) hd hN ?_ fun a'=>k a' A.isNone fun hb=>?_
  · simp only [execOp,ho,S.eval hx,hc]
    simp [eqGuard,binOp,Op.equal,Op.maxDepth,he]
  · rcases h5 with h5 | ⟨b,off,rfl,_⟩
    · exact h5
    · cases hb
end
end Go.Proofs.YtjinaepmpoclaaaGreatDoor
namespace Go.Proofs.YtjinaepmpoclaaaGreatDoor
open Go.RowKit
abbrev GW:=(Nat → Option (Option Nat)) × World
structure RInvG (R:GW → GW → Prop) (ops:Array Oper) (n:Nat) (F:Nat → Value → GW → Prop) (a0:Act) (g0:GW) (listed:Array Bool) (a:Act) (g:GW):Prop where
  size:listed.size = ops.size
  tsize:a.tmps.size = a0.tmps.size
  defers:a.defers = a0.defers
  below:R g0 g
  keep:∀ t,(∀ (i:Nat) (o:Oper),i < n → ops[i]? = some o → o.dst ≠ some t) → a.tmps[t]? = a0.tmps[t]?
  done:∀ (i:Nat) (o:Oper) (d:Nat),listed.getD i false = true → ops[i]? = some o → o.dst = some d → ∃ v,a.tmps[d]? = some v ∧ F i v g
  doneN:∀ (i:Nat) (o:Oper),listed.getD i false = true → ops[i]? = some o → o.dst = none → F i undef g
  late:∀ i,n ≤ i → listed.getD i false = false
  closed:c_4 ops listed
  free:∀ i,listed.getD i false = false → g.1 i = none
section
variable {R:GW → GW → Prop} {P:Program} {ops:Array Oper} {F:Nat → Value → GW → Prop} {a0:Act} {g0:GW} {Q:Exit → Act → World → Prop} {n:Nat}
end
end Go.Proofs.YtjinaepmpoclaaaGreatDoor
namespace Go.Proofs.YtjinaepmpoclaaaGreatDoor
open Go.RowKit
def lm (I:List Nat) (L:List (Option Nat)) (M:Nat → Option (Option Nat)):List (Option Nat):=I.map (fun i=>(M i).join) ++ L
section
variable {w0 w w':World} {L:List (Option Nat)} {K:Nat → Prop} {n b:Nat} {t:GT} {I:List Nat} {M:Nat → Option (Option Nat)}
structure Gr (w0:World) (I:List Nat) (L:List (Option Nat)) (g g':GW):Prop where
  below:Below g.2.heap.size g.2 g'.2
  same:∀ j o,g.1 j = some o → g'.1 j = some o
  new:∀ j b,g.1 j = none → g'.1 j = some (some b) → g.2.heap.size ≤ b
  wd:Wd w0 g.2 (lm I L g.1) → Wd w0 g'.2 (lm I L g'.1)
theorem NewB.newO (h:NewB w w' b):NewO w w' (some b):=⟨h.below,fun c e=>by obtain rfl:=Option.some.inj e;exact h.ge,fun c e=>by obtain rfl:=Option.some.inj e;exact h.lt⟩
end
section
variable {w0:World} {I:List Nat} {L:List (Option Nat)} {K:Nat → Prop} {n:Nat} {t:GT}
variable {ds:List Deferred} {N d i:Nat} {A a0:Act} {l:List (Nat × Value)} {v:Value} {f:Value → GW → Prop} {w w':World} {Q:Exit → Act → World → Prop} {M:Nat → Option (Option Nat)} {P:Program}
end
end Go.Proofs.YtjinaepmpoclaaaGreatDoor
namespace Go.Proofs.YtjinaepmpoclaaaGreatDoor
open Go.RowKit
section
variable {ds:List Deferred} {N:Nat} {a:Act} {l:List (Nat × Value)} {w w0:World} {P:Program} {ops:Array Oper} {Q:Exit → Act → World → Prop} {rest:List Oper} {o:Oper} {Kont:Act → World → Prop} {d:Nat} {K:Nat → Prop} {n:Nat} {L:List (Option Nat)}
theorem op_rowN (S:StD ds N a l) (W:Wd w0 w L) {T E0:TypeId} {len:Nat} {parts:Array (Nat × Operand)} {e:GT} {vs:List Value} {xs:List (PT e)} (ho:o.op = .buildSlice T len parts) (ht:tiQ P (.sl e) false T [] 0 = true) (hE0:P.underlying T = some (.slice E0)) (hp:e.isPair = false) (hsz:Nat.blt 0 (len * e.sz) = true) (hzero:zeroB P T = true) (hd:o.dst = some d) (hN:Nat.blt d N = true)
    (hv:evs l (parts.toList.map (·.2)) = some vs) (hparts:parts.toList.map (·.1) = List.range len) (hsmall:Nat.ble (len * e.sz) 16777216 = true) (R:RepVs e w (Kx K w0.heap.size L) vs xs)
    (k:∀ a' w' b,NewB w w' b → Ow e E0 w' w0.heap.size (Kx K w0.heap.size (some b :: L)) (.slice (some ⟨b,0,.none⟩) len len) xs (some len) → StD ds N a' ((d,.slice (some ⟨b,0,.none⟩) len len) :: l) → Kont a' w'):o.wp P a w Kont Q:=by
  obtain ⟨h1,h2,h3⟩:=R.css hp
  obtain ⟨E,hE,htE⟩:=a_V ht
  obtain rfl:E0 = E:=by rw [hE0] at hE;injection hE with h;injection h
  obtain ⟨ie,hie,hse⟩:=a_u htE
  have hvl:vs.length = len:=by
    have hm:=S.evs hv
    have:=congrArg List.length hparts
    rw [← hm]
    simpa using this
  obtain ⟨z,hz⟩:∃ z,ie.zero = some z:=by
    unfold zeroB at hzero
    rw [hE] at hzero
    simp only [hie,Option.any_some] at hzero
    exact Option.isSome_iff_exists.1 hzero
  have hpl:(parts.map fun (p:Nat × Operand)=>(p.1,a.eval p.2)).toList = b_0 0 vs:=by
    have hm:=S.evs hv
    have key:∀ (ps:List (Nat × Operand)) (us:List Value) (i:Nat),ps.map (·.1) = List.range' i ps.length → (ps.map (·.2)).map a.eval = us → ps.map (fun p=>(p.1,a.eval p.2)) = b_0 i us:=by
      intro ps
      induction ps with
      | nil=>intro us i _ h;simp at h;subst h;rfl
      | cons p ps ih =>
        intro us i h1 h2
        rw [List.map_cons,List.length_cons,List.range'_succ] at h1
        injection h1 with h1a h1b
        rw [List.map_cons,List.map_cons] at h2
        subst h2
        rw [List.map_cons,h1a]
        unfold b_0
        rw [ih _ (i + 1) h1b rfl]
    rw [Array.toList_map]
    refine key parts.toList vs 0 ?_ hm
    rw [hparts,List.range_eq_range']
    have:=congrArg List.length hparts
    simp at this
    simp [this]
  have hfill:Instr.fill (fun i=>some (i * ie.size,ie.size)) ((Array.range (len * ie.size)).map (z.cells[· % z.cells.size]!)) (parts.map fun (p:Nat × Operand)=>(p.1,a.eval p.2)).toList = some (vs.map fun v=>v.cells.toList).flatten.toArray:=by
    rw [hpl]
    have:=c_D ie.size vs 0 [] ((Array.range (len * ie.size)).map (z.cells[· % z.cells.size]!)).toList (fun v hv=>by rw [hse];exact h2 v hv) (by simp) (by simp [hvl])
    simpa only [List.nil_append,Array.toArray_toList] using this
  have hrun:=run_bsl (P:=P) (w:=w) T E0 len (parts.map fun (p:Nat × Operand)=>(p.1,a.eval p.2)) _ ie z hE hie hz (by rw [hse];simpa [Nat.ble_eq,Nat.not_lt] using hsmall) (by rw [hse];simp [Nat.blt_eq] at hsz;omega) hfill
  have hle:len ≤ 16777216:=by
    simp only [Nat.ble_eq,Nat.blt_eq] at hsmall hsz
    have hz:0 < e.sz:=Nat.pos_of_ne_zero fun h=>by rw [h] at hsz;simp at hsz
    have:=Nat.le_mul_of_pos_right len hz
    omega
  have hnew:=a_U w (.cells (vs.map fun v=>v.cells.toList).flatten.toArray E0)
  have harr:=RepCs.arrOf (e:=e) (w:=w) (K:=Kx K w0.heap.size L) (css:=vs.map fun v=>v.cells.toList) (by simp [h1]) h3
  have hxl:xs.length = len:=by omega
  have hfl:(vs.map fun v=>v.cells.toList).flatten.length = len * e.sz:=by
    have:=harr.len
    rw [GT.sz,hxl] at this
    exact this
  refine a_s S (v:=.slice (some ⟨w.heap.size,0,.none⟩) len len) (w':=w.alloc (.cells (vs.map fun v=>v.cells.toList).flatten.toArray E0)) hd hN ?_ fun a'=>k a' _ w.heap.size hnew ⟨(vs.map fun v=>v.cells.toList).flatten,⟨by rw [hxl];exact hfl,.inr ⟨w.heap.size,len,_,by rw [hxl],W.below.size,heap_alloc_new w _,by omega,by simp only [maxLen];omega,by simpa using hfl,?_⟩⟩,?_,fun q hq=>by obtain rfl:=Option.some.inj hq;exact ⟨_,_,rfl⟩⟩
  · have hpm:parts.map (fun (x:Nat × Operand)=>match x with | (i,x)=>(i,a.eval x)) = parts.map fun (p:Nat × Operand)=>(p.1,a.eval p.2):=rfl
    simp only [execOp,ho]
    simp [hrun,hpm]
  · rw [List.toList_toArray,hxl,← hfl,List.take_length]
  · exact harr.keep (Keeps.below hnew.below) fun c hc hk=>Kx.newO hnew.newO hc hk
end
end Go.Proofs.YtjinaepmpoclaaaGreatDoor
namespace Go.Proofs.YtjinaepmpoclaaaGreatDoor
open Go.RowKit
def Fr (r:Option Nat):Fence:={ Fence.wide with round:=r }
def b_t (o:Oper):Bool:=match o.op with | .defer _=>false | _=>true
def CI (r:Option Nat) (P:Program) (c:Code) (Q:Exit → Act → World → Prop) (a:Act) (w:World):Prop:=¬ LetsOut Q → c.wpIn (Fr r) 0 P Q a w
def LI (r:Option Nat) (P:Program) (ops:Array Oper) (Q:Exit → Act → World → Prop) (l:List Oper) (a:Act) (w:World):Prop:=¬ LetsOut Q → wpListIn (Fr r) 0 P ops Q l a w
theorem d_R {r:Option Nat} {ρ:Operand → Value} {o:Oper} (h:b_t o = true):o.semAt (Fr r).round ρ = execOp ρ o:=by
  cases r with
  | none=>exact Oper.semAt_none ρ o
  | some l =>
    refine Oper.semAt_some l ρ o fun c hc=>?_
    unfold b_t at h
    rw [hc] at h
    cases h
section
variable {r:Option Nat} {ds:List Deferred} {N:Nat} {a:Act} {l:List (Nat × Value)} {w w0:World} {P:Program} {ops:Array Oper} {Q:Exit → Act → World → Prop} {rest:List Oper} {o:Oper} {Kont K:Act → World → Prop} {d:Nat}
theorem rowsIn_of {row:String} {args:Array Value} {R:Value → World → Prop} (h:Rows P row args w R):RowsIn (Fr r) 0 P row args w R:=by
  intro c cs _
  obtain ⟨v,w',hr,hs⟩:=h c cs
  exact ⟨v,w',hr,stepsIn_wide.2 hs⟩
theorem c_Y {f:FuncId} {args:Array Value} {R:Ending → World → Prop} (h:Calls P f args w R):CallsIn (Fr r) 0 P f args w R:=callsIn_wide.2 h
theorem wpIn_of (hd:b_t o = true) (h:o.wp P a w K Q):o.wpIn (Fr r) 0 P a w K Q:=by
  refine ⟨fun _ _=>trivial,?_⟩
  rw [d_R hd]
  unfold Oper.wp at h
  generalize (execOp a.eval o).run P w = q at *
  cases q with
  | ok n w' =>
    cases n <;> simp only [Oper.upon,Oper.uponIn] at h ⊢
    case value=>exact h
    case skip=>exact h
    case defer=>exact h
    case enter=>exact ⟨fun h=>by simp [Fr,Fence.wide] at h,c_Y h⟩
    case row=>exact ⟨fun h=>by simp [Fr,Fence.wide] at h,rowsIn_of h⟩
  | halt x w'=>cases x <;> simp only [Oper.upon,Oper.uponIn] at h ⊢ <;> exact h
theorem a_9 {y:Act → World → Prop} (hQ:¬ LetsOut Q):¬ LetsOut (Exit.then y Q):=fun ⟨a,w,h⟩=>hQ ⟨a,w,h⟩
theorem d_F {id:Nat} (hQ:¬ LetsOut Q):¬ LetsOut (Exit.inBlock id Q):=fun ⟨a,w,h⟩=>hQ ⟨a,w,h⟩
namespace R
theorem wp_seq {x y:Code} (h:CI r P x (Exit.then (CI r P y Q) Q) a w):CI r P (.seq x y) Q a w:=fun hQ =>
  wpIn_seq (wpIn_mono (h (a_9 hQ)) fun e a w he=>by
    cases e with
    | normal=>exact he hQ
    | _=>exact he)
theorem wp_skip (h:Q .normal a w):CI r P .skip Q a w:=fun _=>wpIn_skip h
theorem wp_ret (h:Q .ret a w):CI r P .ret Q a w:=fun _=>wpIn_ret h
theorem wp_exit {id:Nat} (h:Q (.exit id) a w):CI r P (.exit id) Q a w:=fun _=>wpIn_exit h
theorem wp_block {id:Nat} {c:Code} (h:CI r P c (Exit.inBlock id Q) a w):CI r P (.block id c) Q a w:=fun hQ=>wpIn_block (h (d_F hQ))
theorem wp_cond_split {c:Operand} {x y:Code} {t:Bool} (hc:a.eval c = .bool t) (ht:t = true → CI r P x Q a w) (hf:t = false → CI r P y Q a w):CI r P (.cond c x y) Q a w:=fun hQ =>
  wpIn_cond_split hc (fun h=>ht h hQ) (fun h=>hf h hQ)
theorem a_A {x:Code} (M:Act → World → Prop) (h1:CI r P x (Exit.then M Q) a w) (h2:∀ a' w',M a' w' → Q .normal a' w'):CI r P x Q a w:=fun hQ =>
  wpIn_mono (h1 (a_9 hQ)) fun e a' w' h=>by
    cases e with
    | normal=>exact h2 a' w' h
    | _=>exact h
theorem a_z {c:Code} (I:Nat → Act → World → Prop) (n:Nat) (h0:I n a w) (round:∀ n a w,I n a w → ∃ m,n = m + 1 ∧ CI r P c (Exit.then (I m) Q) a w):CI r P (.loop c) Q a w:=by
  intro hQ
  refine wpIn_loop (fun a w=>∃ n,I n a w) (fun a w=>leastOf (fun n=>I n a w)) ⟨n,h0⟩ fun a w hI=>?_
  obtain ⟨m,hm,hr⟩:=round _ a w (leastOf_spec hI).1
  refine wpIn_mono (hr (a_9 hQ)) fun e a' w' hq=>?_
  cases e with
  | normal=>exact show (∃ n,I n a' w') ∧ leastOf (fun n=>I n a' w') < leastOf (fun n=>I n a w) from (by
    have hq:I m a' w':=hq
    refine ⟨⟨m,hq⟩,?_⟩
    have:=(leastOf_spec (p:=fun n=>I n a' w') ⟨m,hq⟩).2 m hq
    omega)
  | _=>exact hq
theorem wp_region_lit {id:Nat} {l:List Oper} (h:LI r P l.toArray Q l a w):CI r P (.region id l.toArray false) Q a w:=fun hQ=>wpIn_region_lit (h hQ)
theorem wpList_nil (h:Q .normal a w):LI r P ops Q [] a w:=fun _=>h
theorem w_go (S:StD ds N a l) (hg:gOk ops l o = some true) (h:o.wp P a w (LI r P ops Q rest) Q) (hd:b_t o = true:=by rfl):LI r P ops Q (o :: rest) a w:=by
  intro hQ
  unfold wpListIn
  rw [if_pos (gOk.wanted S hg)]
  exact Oper.wpIn_mono (fun a w h=>h hQ) (wpIn_of hd h)
theorem c_q (S:StD ds N a l) (hg:gOk ops l o = some false) (h:LI r P ops Q rest (a.put o.dst undef) w):LI r P ops Q (o :: rest) a w:=by
  intro hQ
  unfold wpListIn
  rw [if_neg (by rw [gOk.wanted S hg];exact Bool.false_ne_true)]
  exact ⟨fun _ _=>trivial,h hQ⟩
theorem a_T (tys:List (TypeId × GT)) (ht:tysOk P tys = true):∀ (l1:List Oper) {l2:List Oper} {a:Act} {l l':List (Nat × Value)},StD ds N a l → a_h tys ops N l1 l = some l' → (∀ a',StD ds N a' l' → LI r P ops Q l2 a' w) → LI r P ops Q (l1 ++ l2) a w
  | [],l2,a,l,l',S,h,k=>by
    simp only [a_h,Option.some.injEq] at h
    subst h
    exact k a S
  | o :: l1,l2,a,l,l',S,h,k=>by
    unfold a_h at h
    split at h
    · rename_i d hg hd
      split at h
      · rename_i v hv
        split at h
        · rename_i hN
          exact w_go S hg (a_s S hd hN (c_B S o tys ht hv) fun a' S'=>a_T tys ht l1 S' h k) (by
            unfold b_t
            split
            · rename_i c hc;rw [hc] at hv;simp [pureOp] at hv
            · rfl)
        · cases h
      · cases h
    · rename_i d hg hd
      split at h
      · rename_i hN
        refine c_q S hg ?_
        rw [hd]
        exact a_T tys ht l1 (S.put (by simpa [Nat.blt_eq] using hN) undef) h k
      · cases h
    · rename_i hg hd
      refine c_q S hg ?_
      rw [hd]
      exact a_T tys ht l1 S h k
    · cases h
theorem a_O (S:StD ds N a l) (tys:List (TypeId × GT)) (ht:tysOk P tys = true) (m:Nat) {l0:List Oper} {l':List (Nat × Value)} (h:a_h tys ops N (l0.take m) l = some l')
    (k:∀ a',StD ds N a' l' → LI r P ops Q (l0.drop m) a' w):LI r P ops Q l0 a w:=by
  rw [← List.take_append_drop m l0]
  exact a_T tys ht _ S h k
theorem cut_:∀ (l1:List Oper) {l2:List Oper} {a:Act} {w:World} (M:Act → World → Prop),LI r P ops (Exit.then M Q) l1 a w → (∀ a' w',M a' w' → LI r P ops Q l2 a' w') → LI r P ops Q (l1 ++ l2) a w
  | [],l2,a,w,M,h1,h2=>fun hQ=>h2 a w (h1 (a_9 hQ)) hQ
  | o :: l1,l2,a,w,M,h1,h2=>by
    intro hQ
    have h1:=h1 (a_9 hQ)
    have ih:=fun a w (h:wpListIn (Fr r) 0 P ops (Exit.then M Q) l1 a w)=>cut_ l1 (l2:=l2) (a:=a) (w:=w) M (fun _=>h) h2 hQ
    show wpListIn (Fr r) 0 P ops Q (o :: (l1 ++ l2)) a w
    unfold wpListIn at h1 ⊢
    split
    · rename_i hw
      rw [if_pos hw] at h1
      refine ⟨fun _ _=>trivial,?_⟩
      have h1:=h1.2
      generalize (o.semAt (Fr r).round a.eval).run P w = q at *
      cases q with
      | ok n w' =>
        cases n <;> simp only [Oper.uponIn] at h1 ⊢ <;> try exact ih _ _ h1
        · refine ⟨h1.1,CallsIn.mono h1.2 fun e w'' h=>?_⟩
          cases e with
          | returned v=>exact ih _ _ h
          | panicked c=>exact h
          | outgrown=>obtain ⟨a0,w0,h0⟩:=h;exact ⟨a0,w0,h0⟩
        · refine ⟨h1.1,RoundIn.mono h1.2 fun e w'' h=>?_⟩
          cases e with
          | returned v=>exact ih _ _ h
          | panicked c=>exact h
          | outgrown=>obtain ⟨a0,w0,h0⟩:=h;exact ⟨a0,w0,h0⟩
        · exact ⟨h1.1,RowsIn.mono h1.2 fun v w'' h=>ih _ _ h⟩
      | halt x w' =>
        cases x <;> simp only [Oper.uponIn] at h1 ⊢
        exact h1
    · rename_i hw
      rw [if_neg hw] at h1
      exact ⟨fun _ _=>trivial,ih _ _ h1.2⟩
theorem seg (m:Nat) (M:Act → World → Prop) {l0:List Oper} (h1:LI r P ops (Exit.then M Q) (l0.take m) a w) (h2:∀ a' w',M a' w' → LI r P ops Q (l0.drop m) a' w'):LI r P ops Q l0 a w:=by
  rw [← List.take_append_drop m l0]
  exact cut_ _ M h1 h2
theorem wpAny_in {md:Region.Mode} (hQ:¬ LetsOut Q) (hd:∀ (i:Nat) o,ops[i]? = some o → b_t o = true):∀ (fuel:Nat) (listed:Array Bool) (a:Act) (w:World),wpAny P md ops Q fuel listed a w → wpAnyIn (Fr r) 0 P md ops Q fuel listed a w
  | 0,listed,a,w,h=>h
  | fuel + 1,listed,a,w,h=>by
    refine ⟨h.1,fun i hi=>?_⟩
    have h2:=h.2 i hi
    unfold wpOp at h2
    unfold wpOpIn
    cases ho:ops[i]? with
    | none=>rw [ho] at h2;exact wpAny_in hQ hd fuel _ a w h2
    | some o =>
      rw [ho] at h2
      simp only at h2 ⊢
      by_cases hw:Region.wanted o (yielded ops a.tmps) = true
      · rw [if_pos hw] at h2 ⊢
        rcases h2 with h2 | ⟨_,h3⟩
        · exact Oper.wpIn_mono (fun a w h=>wpAny_in hQ hd fuel _ a w h) (wpIn_of (hd i o ho) h2)
        · exact absurd h3 hQ
      · rw [if_neg hw] at h2 ⊢
        exact ⟨fun _ _=>trivial,wpAny_in hQ hd fuel _ _ w h2⟩
theorem drawn {id:Nat} {l:List Oper} (hm:P.follows .mixedOrders = true) (hd:l.all b_t = true) (h:WAny P l Q a w):CI r P (.region id l.toArray true) Q a w:=fun hQ =>
  wpIn_region_any hm (wpAny_in hQ (fun i o ho=>List.all_eq_true.1 hd o (List.mem_of_getElem? (i:=i) (by simpa using ho))) _ _ _ _ h)
theorem w_yield (S:StD ds N a l) (hg:gOk ops l o = some true) {x:Operand} {xs:Array Operand} {ts:Array TypeId} {l0:Nat} (ho:o.op = .call { callee:=.value x,args:=xs,argTypes:=ts }) (hx:ev l x = some (.func (.yield l0) #[] #[])) (hd:o.dst = some d) (hN:Nat.blt d N = true)
    {vs:List Value} (hv:evs l xs.toList = some vs) {R:Ending → World → Prop} (h:YieldAt Fence.wide 0 P l0 vs.toArray w R) (k:∀ e w',R e w' → ∃ v,e = .returned v ∧ ∀ a',StD ds N a' ((d,v) :: l) → LI r P ops Q rest a' w'):LI r P ops Q (o :: rest) a w:=by
  intro hQ
  have hvs:xs.map a.eval = vs.toArray:=by
    rw [← S.evs hv,← Array.toList_map,Array.toArray_toList]
  obtain ⟨fn,tmps,assign,body,hy,hR⟩:=h
  have hr:(execOp a.eval o).run P w = .ok (.round l0 fn tmps assign body) w:=by
    simp [execOp,ho,resolve,S.eval hx,Deferred.ofValue,invoke,hvs,hy]
  have hnd:b_t o = true:=by unfold b_t;rw [ho]
  unfold wpListIn
  rw [if_pos (gOk.wanted S hg)]
  refine ⟨fun _ _=>trivial,?_⟩
  rw [d_R hnd,hr]
  refine ⟨fun h=>by simp [Fr,Fence.wide] at h,RoundIn.mono (show RoundIn (Fr r) 0 P l0 fn tmps assign body w R from hR) fun e w' he=>?_⟩
  obtain ⟨v,rfl,hk⟩:=k e w' he
  simp only [hd]
  exact hk _ (S.put (by simpa [Nat.blt_eq] using hN) v) hQ
end R
end
end Go.Proofs.YtjinaepmpoclaaaGreatDoor
namespace Go.Proofs.YtjinaepmpoclaaaGreatDoor
open Go.RowKit
structure Ab (Bs:List (Option Nat)) (n0:Nat) (A B:World):Prop where
  os:B.os = A.os
  tape:B.tape = A.tape
  output:B.output = A.output
  size:A.heap.size ≤ B.heap.size
  low:∀ b,b < n0 → b < A.heap.size → some b ∉ Bs → B.heap[b]? = A.heap[b]?
  cells:∀ b o,some b ∉ Bs → A.heap[b]? = some o → o.isCells = true → B.heap[b]? = some o
  others:∀ b o,some b ∉ Bs → A.heap[b]? = some o → o.isCells = false → ∃ o',B.heap[b]? = some o' ∧ o'.isCells = false
structure Nc (d:Nat) (A B:World):Prop where
  os:B.os = A.os
  tape:B.tape = A.tape
  output:B.output = A.output
  size:B.heap.size = A.heap.size
  block:∀ k,k ≠ d → B.heap[k]? = A.heap[k]?
  was:∃ o,A.heap[d]? = some o ∧ o.isCells = false
  is:∃ o,B.heap[d]? = some o ∧ o.isCells = false
def Ox (o:Obj) (w:World) (b:Nat):Prop:=w.heap[b]? = some o ∧ True
structure Yst (n:Nat) (A:World) (LO:List (Option Nat)) (B:World) (LO':List (Option Nat)):Prop where
  os:B.os = A.os
  tape:B.tape = A.tape
  output:B.output = A.output
  size:A.heap.size ≤ B.heap.size
  keep:∀ b,b < A.heap.size → some b ∉ LO → B.heap[b]? = A.heap[b]?
  old:∀ b,b < A.heap.size → some b ∈ LO' → some b ∈ LO
  own:∀ b,some b ∈ LO' → n ≤ b ∧ b < B.heap.size
  dis:LO'.Pairwise fun x y=>x = .none ∨ x ≠ y
structure Rnd (A:World) (LO:List (Option Nat)) (w:World) (L:List (Option Nat)):Prop where
  os:w.os = A.os
  tape:w.tape = A.tape
  output:w.output = A.output
  size:A.heap.size ≤ w.heap.size
  keep:∀ b,b < A.heap.size → some b ∉ LO → w.heap[b]? = A.heap[b]?
  old:∀ b,b < A.heap.size → some b ∈ L → some b ∈ LO
theorem cell_nc {A B:World} {b:Nat} {o o':Obj} (h1:A.heap[b]? = some o) (ho:o.isCells = false) (h2:B.heap[b]? = some o') (ho':o'.isCells = false) (p:Addr) (hp:p.block = b):B.cell? p = A.cell? p:=by
  subst hp
  unfold World.cell?
  cases o <;> simp [Obj.isCells] at ho <;> cases o' <;> simp [Obj.isCells] at ho' <;> simp [h1,h2]
section
variable {w0 w w' A B:World} {L L' LO LO' Bs:List (Option Nat)} {K:Nat → Prop} {n n0 b d i:Nat} {t:GT} {v v':Value} {o:Option Nat}
theorem Ab.wrote (hw:Wrote b A B) (hb:some b ∈ Bs):Ab Bs n0 A B :=
  have h:∀ k,some k ∉ Bs → B.heap[k]? = A.heap[k]?:=fun k hk=>hw.block k fun e=>hk (e ▸ hb)
  ⟨hw.os,hw.tape,hw.output,Nat.le_of_eq hw.size.symm,fun k _ _ hk=>h k hk,fun k o hk e _=>(h k hk).trans e,fun k o hk e e'=>⟨o,(h k hk).trans e,e'⟩⟩
theorem Ab.nc (hn:Nc d A B) (hd:n0 ≤ d):Ab Bs n0 A B :=
  ⟨hn.os,hn.tape,hn.output,Nat.le_of_eq hn.size.symm,fun k h _ _=>hn.block k (by omega),fun k o _ e e'=>(hn.block k fun e2=>by
      obtain ⟨q,h1,h2⟩:=hn.was
      rw [e2,h1] at e
      rw [← Option.some.inj e,h2] at e'
      cases e').trans e,fun k o _ e e'=>by
    by_cases hk:k = d
    · subst hk;exact hn.is
    · exact ⟨o,(hn.block k hk).trans e,e'⟩⟩
theorem Ab.keeps (h:Ab Bs n0 A B) {K':Nat → Prop} (hK:∀ b,K' b → some b ∉ Bs):Keeps K' A B :=
  ⟨h.size,fun p hp hk=>by
    obtain ⟨o,ho⟩:∃ o,A.heap[p.block]? = some o:=⟨_,Array.getElem?_eq_getElem hp⟩
    cases hc:o.isCells with
    | true=>exact World.cell?_of_block ((h.cells _ o (hK _ hk) ho hc).trans ho.symm)
    | false =>
      obtain ⟨o',h1,h2⟩:=h.others _ o (hK _ hk) ho hc
      exact cell_nc ho hc h1 h2 p rfl⟩
theorem Ab.kx (h:Ab Bs n0 A B) (hs:∀ x ∈ Bs,x ∈ L):Keeps (Kx K n L) A B:=h.keeps fun b hk hm=>hk.2 (hs _ hm)
theorem Bx.ab {T:TypeId} {x:PT t} (h:Bx t T A (Kx K n L) b x) (hab:Ab Bs n0 A B) (hs:∀ x ∈ Bs,x ∈ L) (hb:some b ∉ Bs):Bx t T B (Kx K n L) b x:=by
  obtain ⟨cs,h1,h2⟩:=h
  exact ⟨cs,hab.cells b _ hb h1 rfl,h2.keep (hab.kx hs) fun _ _ h=>h⟩
theorem b_R {e:TypeId} {stride k:Nat} {cs:List Value} (h:A.ownsRow n e stride v k cs) (hb:∀ g o,v.ownBlock = some g → A.heap[g]? = some o → o.isCells = true → B.heap[g]? = some o):B.ownsRow n e stride v k cs:=by
  rcases h with ⟨h1,h2 | ⟨g,cap,cur,e1,e2,e3,e4⟩⟩
  · exact ⟨h1,.inl h2⟩
  · exact ⟨h1,.inr ⟨g,cap,cur,e1,e2,hb g _ (by rw [e1];rfl) e3 rfl,e4⟩⟩
theorem Ow.ab {e:GT} {E:TypeId} {xs:List (PT e)} {c:Option Nat} {m:Nat} (h:Ow e E A m (Kx K n L) v xs c) (hab:Ab Bs n0 A B) (hs:∀ x ∈ Bs,x ∈ L) (hb:v.ownBlock = .none ∨ v.ownBlock ∉ Bs):Ow e E B m (Kx K n L) v xs c:=by
  obtain ⟨cs,h1,h2,h3⟩:=h
  exact ⟨cs,b_R h1 fun g o e h4 h5=>hab.cells g o (fun hm=>by
    rcases hb with hb | hb
    · rw [hb] at e;cases e
    · exact hb (e ▸ hm)) h4 h5,h2.keep (hab.kx hs) fun _ _ h=>h,h3⟩
theorem Wd.ab (h:Wd w0 A L) (hab:Ab Bs n0 A B) (hs:∀ x ∈ Bs,x ∈ L) (hn:w0.heap.size ≤ n0):Wd w0 B L :=
  ⟨h.below.trans ⟨hab.os,hab.tape,hab.output,hab.size,fun k hk=>hab.low k (by omega) (by have:=h.below.size;omega) fun hm=>by have:=(h.own k (hs _ hm)).1;omega⟩,
   fun c hc=>⟨(h.own c hc).1,by have:=(h.own c hc).2;have:=hab.size;omega⟩,h.dis⟩
theorem Ox.ab {q:Obj} (h:Ox q A b) (hab:Ab Bs n0 A B) (hb:b < n0) (hn:some b ∉ Bs):Ox q B b:=⟨(hab.low b hb (Array.getElem?_eq_some_iff.1 h.1).1 hn).trans h.1,h.2⟩
theorem Ox.lt {q:Obj} (h:Ox q A b):b < A.heap.size:=(Array.getElem?_eq_some_iff.1 h.1).1
theorem Nc.keeps (h:Nc d A B) {K':Nat → Prop}:Keeps K' A B:=(Ab.nc (Bs:=[]) (n0:=0) h (Nat.zero_le _)).keeps fun _ _ hm=>by cases hm
theorem RepV.nc {u:Value} {x:PT t} (h:RepV t A K u x) (hn:Nc d A B):RepV t B K u x:=h.keep hn.keeps fun _ _ h=>h
theorem Bx.nc {T:TypeId} {x:PT t} (h:Bx t T A K b x) (hn:Nc d A B):Bx t T B K b x:=by
  obtain ⟨cs,h1,h2⟩:=h
  exact ⟨cs,(Ab.nc (Bs:=[]) (n0:=0) hn (Nat.zero_le _)).cells b _ (by simp) h1 rfl,h2.keep hn.keeps fun _ _ h=>h⟩
theorem Ow.nc {e:GT} {E:TypeId} {xs:List (PT e)} {c:Option Nat} {m:Nat} (h:Ow e E A m K v xs c) (hn:Nc d A B):Ow e E B m K v xs c:=by
  obtain ⟨cs,h1,h2,h3⟩:=h
  exact ⟨cs,b_R h1 fun g o e h4 h5=>(Ab.nc (Bs:=[]) (n0:=0) hn (Nat.zero_le _)).cells g o (by simp) h4 h5,h2.keep hn.keeps fun _ _ h=>h,h3⟩
theorem Wd.nc (h:Wd w0 A L) (hn:Nc d A B) (hd:some d ∈ L):Wd w0 B L:=Wd.ab (Bs:=[]) (n0:=w0.heap.size) h (Ab.nc hn (h.own d hd).1) (by simp) (Nat.le_refl _)
theorem Ox.nc {q:Obj} (h:Ox q A b) (hn:Nc d A B) (hb:b ≠ d):Ox q B b:=⟨(hn.block b hb).trans h.1,h.2⟩
theorem Nc.put {o o':Obj} (h:A.heap[d]? = some o) (ho:o.isCells = false) (ho':o'.isCells = false):Nc d A (A.putObj d o') :=
  ⟨rfl,rfl,rfl,by simp [World.putObj],fun k hk=>World.putObj_heap_other hk,⟨o,h,ho⟩,⟨o',World.putObj_heap_same (Array.getElem?_eq_some_iff.1 h).1,ho'⟩⟩
theorem Ox.step {q:Obj} (h:Ox q w b) (hb:Below w.heap.size w w'):Ox q w' b:=⟨(hb.block b h.lt).trans h.1,h.2⟩
theorem Ox.box {q:Obj} (h:Ox q w b) (hb:NewB w w' i):Ox q w' b:=h.step hb.below
theorem Ox.wrote {q:Obj} (h:Ox q w b) (hw:Wrote i w w') (hm:True) (hne:b ≠ i):Ox q w' b:=⟨(hw.block b hne).trans h.1,h.2⟩
theorem Ox.apd {q:Obj} (h:Ox q w b) (W:Wd w0 w L) (ha:Apd w w' v v') (hi:L[i]? = some v.ownBlock) {j:Nat} (hj:L[j]? = some (some b)) (hji:j ≠ i):Ox q w' b :=
  ⟨(ha.grown.block b h.lt fun e=>by
    rcases W.neq hji hj hi with e2 | e2
    · cases e2
    · exact e2 e).trans h.1,h.2⟩
theorem Ox.lessAt {q:Obj} (h:Ox q w b) (i:Nat):Ox q w b:=h
theorem Rnd.start (A:World) (L:List (Option Nat)):Rnd A L A L:=⟨rfl,rfl,rfl,Nat.le_refl _,fun _ _ _=>rfl,fun _ _ h=>h⟩
theorem Rnd.step (h:Rnd A LO w L) (hb:Below w.heap.size w w'):Rnd A LO w' L :=
  ⟨hb.os.trans h.os,hb.tape.trans h.tape,hb.output.trans h.output,Nat.le_trans h.size hb.size,fun b hl hm=>(hb.block b (Nat.lt_of_lt_of_le hl h.size)).trans (h.keep b hl hm),h.old⟩
theorem Rnd.newO (h:Rnd A LO w L) (hN:NewO w w' o):Rnd A LO w' (o :: L) :=
  have h1:=h.step hN.below
  ⟨h1.os,h1.tape,h1.output,h1.size,h1.keep,fun b hl hm=>by
    rcases List.mem_cons.1 hm with e | hm
    · have:=hN.ge b e.symm;have:=h.size;omega
    · exact h.old b hl hm⟩
theorem Rnd.wrote (h:Rnd A LO w L) (hw:Wrote b w w') (hb:some b ∈ L):Rnd A LO w' L :=
  ⟨hw.os.trans h.os,hw.tape.trans h.tape,hw.output.trans h.output,by rw [hw.size];exact h.size,fun k hl hm=>(hw.block k fun e=>hm (h.old k hl (e ▸ hb))).trans (h.keep k hl hm),h.old⟩
theorem Rnd.nc (h:Rnd A LO w L) (hw:Nc b w w') (hb:some b ∈ L):Rnd A LO w' L :=
  ⟨hw.os.trans h.os,hw.tape.trans h.tape,hw.output.trans h.output,by rw [hw.size];exact h.size,fun k hl hm=>(hw.block k fun e=>hm (h.old k hl (e ▸ hb))).trans (h.keep k hl hm),h.old⟩
theorem Rnd.apd (h:Rnd A LO w L) (ha:Apd w w' v v') (hi:L[i]? = some v.ownBlock):Rnd A LO w' (L.set i v'.ownBlock) :=
  have hm:=List.mem_of_getElem? hi
  ⟨ha.grown.os.trans h.os,ha.grown.tape.trans h.tape,ha.grown.output.trans h.output,Nat.le_trans h.size ha.grown.size,fun b hl hb=>(ha.grown.block b (Nat.lt_of_lt_of_le hl h.size) fun e=>hb (h.old b hl (by rw [e];exact hm))).trans (h.keep b hl hb),
   fun b hl hb=>by
    rcases List.mem_or_eq_of_mem_set hb with hb | e
    · exact h.old b hl hb
    · rcases ha.at_ with e2 | e2
      · exact h.old b hl (by rw [e,e2];exact hm)
      · rw [e2] at e;have:=Option.some.inj e;have:=h.size;omega⟩
theorem Rnd.more (h:Rnd A LO w L):Rnd A LO w (.none :: L):=⟨h.os,h.tape,h.output,h.size,h.keep,fun b hl hm=>by
  rcases List.mem_cons.1 hm with e | hm
  · cases e
  · exact h.old b hl hm⟩
theorem Rnd.less (h:Rnd A LO w L) (hs:L'.Sublist L):Rnd A LO w L':=⟨h.os,h.tape,h.output,h.size,h.keep,fun b hl hm=>h.old b hl (hs.subset hm)⟩
theorem Rnd.lessAt (h:Rnd A LO w L) (i:Nat):Rnd A LO w (L.eraseIdx i):=h.less (List.eraseIdx_sublist _ _)
theorem Rnd.drop (h:Rnd A LO w L) (i:Nat):Rnd A LO w (L.drop i):=h.less (List.drop_sublist _ _)
theorem Rnd.yst (h:Rnd A LO w L) (W:Wd w0 w L):Yst w0.heap.size A LO w L:=⟨h.os,h.tape,h.output,h.size,h.keep,h.old,W.own,W.dis⟩
theorem Yst.kk (hy:Yst n A LO B LO') {c:Nat} (hc:c < A.heap.size) (hk:Kx K n0 (Bs ++ LO) c):Kx K n0 (Bs ++ LO') c :=
  ⟨hk.1,fun hm=>hk.2 (by
    rcases List.mem_append.1 hm with hm | hm
    · exact List.mem_append.2 (.inl hm)
    · exact List.mem_append.2 (.inr (hy.old c hc hm)))⟩
theorem Yst.keeps (hy:Yst n A LO B LO'):Keeps (Kx K n0 (Bs ++ LO)) A B:=⟨hy.size,fun p hp hk=>World.cell?_of_block (hy.keep _ hp fun hm=>hk.2 (List.mem_append.2 (.inr hm)))⟩
theorem RepV.yst {u:Value} {x:PT t} (Bs:List (Option Nat)) (h:RepV t A (Kx K n0 (Bs ++ LO)) u x) (hy:Yst n A LO B LO'):RepV t B (Kx K n0 (Bs ++ LO')) u x:=h.keep hy.keeps fun c hc hk=>hy.kk hc hk
theorem Wd.yst (Bs:List (Option Nat)) (h:Wd w0 A (Bs ++ LO)) (hy:Yst w0.heap.size A LO B LO'):Wd w0 B (Bs ++ LO'):=by
  have hd:=List.pairwise_append.1 h.dis
  refine ⟨h.below.trans ⟨hy.os,hy.tape,hy.output,hy.size,fun k hk=>hy.keep k (by have:=h.below.size;omega) fun hm=>by have:=(h.own k (List.mem_append.2 (.inr hm))).1;omega⟩,fun c hc=>?_,List.pairwise_append.2 ⟨hd.1,hy.dis,fun x hx y hz=>?_⟩⟩
  · rcases List.mem_append.1 hc with hc | hc
    · have:=h.own c (List.mem_append.2 (.inl hc));have:=hy.size;omega
    · exact hy.own c hc
  · cases x with
    | none=>exact .inl rfl
    | some c =>
      refine .inr fun e=>?_
      subst e
      have hc:=(h.own c (List.mem_append.2 (.inl hx))).2
      rcases hd.2.2 _ hx _ (hy.old c hc hz) with e | e
      · cases e
      · exact e rfl
theorem Bx.yst {T:TypeId} {x:PT t} (Bs:List (Option Nat)) (h:Bx t T A (Kx K n0 (Bs ++ LO)) b x) (hy:Yst n A LO B LO') (W:Wd w0 A (Bs ++ LO)) (hb:some b ∈ Bs):Bx t T B (Kx K n0 (Bs ++ LO')) b x:=by
  have hl:=h.lt
  obtain ⟨cs,h1,h2⟩:=h
  refine ⟨cs,(hy.keep b hl fun hm=>?_).trans h1,h2.keep hy.keeps fun c hc hk=>hy.kk hc hk⟩
  rcases (List.pairwise_append.1 W.dis).2.2 _ hb _ hm with e | e
  · cases e
  · exact e rfl
structure JI {β:Type} (Inv:β → List (Option Nat) → World → Prop) (Bs:List (Option Nat)) (n0:Nat) (LO:List (Option Nat)) (A:World) (b:β):Prop where
  ab:∀ b LO A B,Inv b LO A → Ab Bs n0 A B → Inv b LO B
  inv:Inv b LO A
  hn:n0 ≤ A.heap.size
variable {β:Type} {Inv:β → List (Option Nat) → World → Prop} {s:β}
theorem JI.wrote (h:JI Inv Bs n0 LO A s) (hw:Wrote b A B) (hb:some b ∈ Bs):JI Inv Bs n0 LO B s:=⟨h.ab,h.ab _ _ _ _ h.inv (Ab.wrote hw hb),by rw [hw.size];exact h.hn⟩
end
def Lr (D:Nat) (fn:FuncId) (tmps:Array Value) (ps:Array Tmp) (assign body:Code) (st:LoopState) (pe:Option Code):Obj:=.loop { state:=st,pending:=pe,fn,tmps,params:=ps,assign,body,defers:=D }
def rk (rec:LoopState → Option Code → Obj) (js:List Code):Nat → Obj
  | 0=>rec .ready none
  | k + 1=>rec .done js[k]?
def d_G (D:Nat):Deferred:={ target:=.collected D,args:=#[] }
section
variable {r:Option Nat} {ds:List Deferred} {N:Nat} {a:Act} {sl:List (Nat × Value)} {w w0:World} {P:Program} {Q:Exit → Act → World → Prop}
def RP (P:Program) (l:Nat) (Q:Exit → Act → World → Prop) (a':Act) (w:World):Prop :=
  ∃ jump w4,(Instr.endLoop l).run P w = .ok jump w4 ∧ (match jump with | none=>Q .normal a' w4 | some c=>CI none P c Q a' w4)
theorem RP.done {rec:LoopState → Option Code → Obj} {l D fn tmps ps assign body} (hr:rec = Lr D fn tmps ps assign body) (h:Ox (rec .ready none) w l) (k:∀ w4,Nc l w w4 → Q .normal a w4):RP P l Q a w:=by
  subst hr
  exact ⟨none,_,run_endLoop h.1 (by simp),k _ (Nc.put h.1 rfl rfl)⟩
theorem R.range (S:StD ds N a sl) {g:Operand} {ps:Array Tmp} {assign body:Code} {gf:FuncId} {lb:Array Value} (hg:ev sl g = some (.func (.func gf) #[] lb)) (hcb:a_I P gf = true)
    (h:∀ fn w1 w2 D l rec,rec = Lr D fn a.tmps ps assign body → NewB w w1 D → NewB w1 w2 l → Ox (.deferred (some [])) w1 D → Ox (rec .ready none) w2 l →
      Calls P gf (#[.func (.yield l) #[] #[]] ++ lb) w2 fun e w3=>(∃ v,e = .returned v) ∧ RP P l Q { a with defers:=d_G D :: a.defers } w3):CI none P (.rangeFunc g ps assign body) Q a w:=by
  intro hQ
  refine wpIn_rangeFunc fun fn _=>?_
  have n1:NewB w (w.alloc (.deferred (some []))) w.heap.size:=⟨(Below.refl _ w).alloc (Nat.le_refl _) _,Nat.le_refl _,by simp⟩
  have hl:=World.alloc_heap_new (w.alloc (.deferred (some []))) (Lr w.heap.size fn a.tmps ps assign body .ready none)
  rw [World.size_alloc] at hl
  have n2:NewB (w.alloc (.deferred (some []))) ((w.alloc (.deferred (some []))).alloc (Lr w.heap.size fn a.tmps ps assign body .ready none)) (w.heap.size + 1):=⟨(Below.refl _ _).alloc (Nat.le_refl _) _,by simp,by simp⟩
  have hD:Ox (.deferred (some [])) (w.alloc (.deferred (some []))) w.heap.size:=⟨World.alloc_heap_new w _,trivial⟩
  refine ⟨w.heap.size + 1,[d_G w.heap.size],_,{ target:=.fn (.func gf) lb,args:=#[.func (.yield (w.heap.size + 1)) #[] #[]] },(w.alloc (.deferred (some []))).alloc (Lr w.heap.size fn a.tmps ps assign body .ready none),gf,#[.func (.yield (w.heap.size + 1)) #[] #[]] ++ lb,(w.alloc (.deferred (some []))).alloc (Lr w.heap.size fn a.tmps ps assign body .ready none),run_enterLoop_outer fn a.tmps ps assign body,?_,fun _ _=>trivial,?_,fun h=>by simp [Fr,Fence.wide] at h,?_⟩
  · have:a.eval g = .func (.func gf) #[] lb:=S.eval hg
    simp only [resolve,this]
    simp [go_sem]
    rfl
  · simp [invoke,b_L hcb]
  · refine c_Y ((h fn _ _ _ _ _ rfl n1 n2 hD ⟨hl,trivial⟩).mono ?_)
    rintro _ w3 ⟨⟨v,rfl⟩,jump,w4,he,hj⟩
    refine ⟨jump,w4,he,?_⟩
    cases jump with
    | none=>exact hj
    | some c=>exact hj hQ
def psL:List Nat → List Value → List (Nat × Value) → List (Nat × Value)
  | p :: ps,v :: vs,l=>psL ps vs ((p,v) :: l)
  | _,_,l=>l
theorem St.round:∀ (ps:List Nat) (vs:List Value) {T:Array Value} {sl:List (Nat × Value)},(∀ p ∈ ps,p < N) → StD [] N { tmps:=T,defers:=[] } sl → St N { tmps:=(ps.zip vs).foldl (fun t p=>t.setIfInBounds p.1 p.2) T,defers:=[] } (psL ps vs sl)
  | [],_,_,_,_,S=>S
  | _ :: _,[],_,_,_,S=>S
  | p :: ps,v :: vs,T,sl,hp,S=>St.round ps vs (fun q hq=>hp q (List.mem_cons_of_mem _ hq)) (S.put (hp p (List.mem_cons_self ..)) v)
theorem StD.mark {D:Nat} (S:StD ds N a sl):StD (d_G D :: ds) N { a with defers:=d_G D :: a.defers } sl:=⟨S.size,by simp [S.defers],S.at_⟩
theorem StD.plain (S:StD ds N a sl):StD [] N { tmps:=a.tmps,defers:=[] } sl:=⟨S.size,rfl,S.at_⟩
def BG (P:Program) (l:Nat) (body:Code) (R:Ending → World → Prop) (a:Act) (w:World):Prop:=∃ w2,(Instr.beginRound l).run P w = .ok () w2 ∧ CI (some l) P body (roundPost P l R) a w2
theorem R.begin {rec:LoopState → Option Code → Obj} {l D fn tmps ps assign body b} {R:Ending → World → Prop} (hr:rec = Lr D fn tmps ps assign b) (h:Ox (rec .ready none) w l) (k:∀ w2,Nc l w w2 → Ox (rec .busy none) w2 l → CI (some l) P body (roundPost P l R) a w2):BG P l body R a w:=by
  subst hr
  exact ⟨_,run_beginRound h.1 rfl,k _ (Nc.put h.1 rfl rfl) ⟨World.putObj_heap_same (Array.getElem?_eq_some_iff.1 h.1).1,trivial⟩⟩
theorem d_6 {rec:LoopState → Option Code → Obj} {l D fn assign body} {ps:List Nat} {vs:List Value} {R:Ending → World → Prop} (hr:rec = Lr D fn a.tmps ps.toArray assign body) (S:StD ds N a sl) (h:Ox (rec .ready none) w l) (hs:vs.length = ps.length) (hp:ps.all (Nat.blt · N) = true)
    (k:∀ a',St N a' (psL ps vs sl) → CI (some l) P assign (Exit.then (BG P l body R) (fun _ _ _=>False)) a' w):YieldAt Fence.wide 0 P l vs.toArray w R:=by
  subst hr
  have hy:=run_yield (P:=P) (args:=vs.toArray) h.1 (by simpa using hs)
  refine ⟨fn,_,assign,body,hy,roundIn_of_wpIn trivial ?_⟩
  have S1:=St.round ps vs (fun p hm=>by simpa [Nat.blt_eq] using List.all_eq_true.1 hp p hm) S.plain
  have e:((ps.toArray.zip vs.toArray).foldl (fun tmps (x:Tmp × Value)=>tmps.setIfInBounds x.1 x.2) a.tmps) = (ps.zip vs).foldl (fun t p=>t.setIfInBounds p.1 p.2) a.tmps:=by simp
  have:=k _ S1 (fun ⟨_,_,h⟩=>h)
  refine wpIn_mono (c:=assign) (F:=Fence.wide.inRound l) (show assign.wpIn (Fence.wide.inRound l) 0 P _ _ w from by rw [← e] at this;exact this) fun e a' w' he=>?_
  cases e with
  | normal=>obtain ⟨w2,h1,h2⟩:=he;exact ⟨w2,h1,h2 (fun ⟨_,_,h⟩=>h)⟩
  | _=>exact he
theorem R.end_n {rec:LoopState → Option Code → Obj} {l D fn tmps ps assign b} {R:Ending → World → Prop} (hr:rec = Lr D fn tmps ps assign b) (h:Ox (rec .busy none) w l) (k:∀ w2,Nc l w w2 → Ox (rec .ready none) w2 l → R (.returned (.bool true)) w2):roundPost P l R .normal a w:=by
  subst hr
  exact ⟨_,_,run_endRound none h.1,k _ (Nc.put h.1 rfl rfl) ⟨World.putObj_heap_same (Array.getElem?_eq_some_iff.1 h.1).1,trivial⟩⟩
theorem R.enter {f:FuncId} {fn:Func} {c:Code} {args:List Value} {R:Ending → World → Prop} (hf:P.funcs[f]? = some fn) (hb:fn.body = some c) (N:Nat) (hN:fn.ntmps = N) (hl:Nat.ble args.length N = true) (hR:∀ w,¬ R .outgrown w)
    (h:∀ a,St N a (b_0 0 args) → CI none P c (bodyPostM (Fr none) 0 P fn R) a w):Calls P f args.toArray w R:=by
  refine (callsIn_wide (n:=0)).1 (callsIn_of_wp_marks (F:=Fence.wide) hf hb trivial ?_)
  rw [hN]
  exact h _ (StD.enter args N (by simpa [Nat.ble_eq] using hl)) fun ⟨_,w,h⟩=>hR w h
theorem R.leave0 (S:StD [] N a sl) {fn:Func} {R:Ending → World → Prop} (h:∀ a',St N a' sl → bodyPost P fn R .ret a' w) {e:Exit} (he:e = .ret ∨ e = .normal):bodyPostM (Fr none) 0 P fn R e a w:=by
  have:=h a S
  obtain ⟨_,v,h1,h2⟩:=this
  rcases he with rfl | rfl <;> (show LeavesInM _ _ _ _ _ _ a.defers _ _;rw [S.defers];exact ⟨v,h1,h2⟩)
theorem R.leave1 {D:Nat} (S:StD [d_G D] N a sl) {fn:Func} {R:Ending → World → Prop} (hD:Ox (.deferred (some [])) w D) (h:∀ a' w',Nc D w w' → St N a' sl → bodyPost P fn R .ret a' w') {e:Exit} (he:e = .ret ∨ e = .normal):bodyPostM (Fr none) 0 P fn R e a w:=by
  obtain ⟨_,v,h1,h2⟩:=h { tmps:=a.tmps,defers:=[] } _ (Nc.put (o':=.deferred none) hD.1 rfl rfl) S.plain
  rcases he with rfl | rfl <;> (show LeavesInM _ _ _ _ _ _ a.defers _ _;rw [S.defers];exact ⟨by simp,.inl ⟨D,_,rfl,run_takeDeferred hD.1,v,h1,h2⟩⟩)
def rnd {σ α:Type} (body:σ → α → Option (Nat × σ)):Nat × σ → α → Option (Bool × (Nat × σ))
  | (0,s),x=>(body s x).map fun r=>(Nat.beq r.1 0,r)
  | _,_=>none
theorem rnd_some {σ α:Type} {body:σ → α → Option (Nat × σ)} {s:Nat × σ} {x:α} {r:Bool × (Nat × σ)} (h:rnd body s x = some r):∃ s0 r0,s = (0,s0) ∧ body s0 x = some r0 ∧ r = (Nat.beq r0.1 0,r0):=by
  unfold rnd at h
  split at h
  · cases hb:body _ _ with
    | none=>rw [hb] at h;cases h
    | some r0=>rw [hb] at h;exact ⟨_,r0,rfl,hb,(Option.some.inj h).symm⟩
  · cases h
end
end Go.Proofs.YtjinaepmpoclaaaGreatDoor
namespace Go.Proofs.YtjinaepmpoclaaaGreatDoor
open Go.RowKit
def Pr (t:GT) (w:World) (K:Nat → Prop) (p:Addr) (x:PT t):Prop:=RepAt t w K p x ∧ p.block < w.heap.size ∧ K p.block
section
variable {w0 w w' A B:World} {L L' LO LO' Bs:List (Option Nat)} {K K':Nat → Prop} {n n0 b d i:Nat} {t:GT} {v v':Value} {o:Option Nat} {p:Addr} {x:PT t}
theorem Pr.keep (h:Pr t w K p x) (hk:Keeps K w w') (hK:∀ b,b < w.heap.size → K b → K' b):Pr t w' K' p x :=
  ⟨h.1.keep hk hK fun i _=>hk.2 ⟨p.block,p.off + i,.none⟩ h.2.1 h.2.2,Nat.lt_of_lt_of_le h.2.1 hk.1,hK _ h.2.1 h.2.2⟩
theorem Pr.newO (h:Pr t w (Kx K n L) p x) (hN:NewO w w' o):Pr t w' (Kx K n (o :: L)) p x:=h.keep (Keeps.below hN.below) fun c hc hk=>Kx.newO hN hc hk
theorem Pr.box (h:Pr t w (Kx K n L) p x) (hb:NewB w w' b):Pr t w' (Kx K n (some b :: L)) p x:=h.newO (NewB.newO hb)
theorem Pr.wrote (h:Pr t w (Kx K n L) p x) (hw:Wrote b w w') (hb:some b ∈ L):Pr t w' (Kx K n L) p x:=h.keep (Keeps.wrote hw hb) fun _ _ h=>h
theorem Pr.less (h:Pr t w (Kx K n L) p x) (hs:L'.Sublist L):Pr t w (Kx K n L') p x:=h.keep (Keeps.refl _ _) fun c _ hk=>⟨hk.1,fun hm=>hk.2 (hs.subset hm)⟩
theorem Pr.lessAt (h:Pr t w (Kx K n L) p x) (i:Nat):Pr t w (Kx K n (L.eraseIdx i)) p x:=h.less (List.eraseIdx_sublist _ _)
theorem Pr.lessO (h:Pr t w (Kx K n L) p x) (i:Nat) (hi:L[i]? = some o):Pr t w (Kx K n [o]) p x:=h.less (List.singleton_sublist.2 (List.mem_of_getElem? hi))
theorem Bx.lessO {T:TypeId} (h:Bx t T w (Kx K n L) b x) (i:Nat) (hi:L[i]? = some o):Bx t T w (Kx K n [o]) b x:=h.less (List.singleton_sublist.2 (List.mem_of_getElem? hi))
theorem Wd.newB (h:Wd w0 w L) (i:Nat) (hi:L[i]? = some (some b)):NewB w0 w b:=⟨h.below,(h.own b (List.mem_of_getElem? hi)).1,(h.own b (List.mem_of_getElem? hi)).2⟩
theorem Pr.yst (Bs:List (Option Nat)) (h:Pr t A (Kx K n0 (Bs ++ LO)) p x) (hy:Yst n A LO B LO'):Pr t B (Kx K n0 (Bs ++ LO')) p x:=h.keep hy.keeps fun c hc hk=>hy.kk hc hk
theorem Pr.backO {w1:World} (h:Pr t w' (Kx (Kx K w1.heap.size L) w.heap.size [o]) p x) (hw:Wd w1 w L):Pr t w' (Kx K w1.heap.size (o :: L)) p x:=h.keep (Keeps.refl _ _) fun c _ hk=>Kx.backO hw hk
theorem Bx.backO {T:TypeId} {w1:World} (h:Bx t T w' (Kx (Kx K w1.heap.size L) w.heap.size [o]) b x) (hw:Wd w1 w L):Bx t T w' (Kx K w1.heap.size (o :: L)) b x:=by
  obtain ⟨cs,h1,h2⟩:=h
  exact ⟨cs,h1,h2.keep (Keeps.refl _ _) fun c _ hk=>Kx.backO hw hk⟩
theorem Bx.pr {T:TypeId} (h:Bx t T w (Kx K n L) b x) (W:Wd w0 w L) (hn:n = w0.heap.size) (i:Nat) (hi:L[i]? = some (some b)):Pr t w (Kx K n (L.eraseIdx i)) ⟨b,0,.none⟩ x:=by
  refine ⟨(h.lessAt i).at_,h.lt,.inr (by rw [hn];exact (W.own b (List.mem_of_getElem? hi)).1),fun hm=>?_⟩
  obtain ⟨j,hji,hj⟩:=b_P hm
  rcases W.neq hji hj hi with e | e
  · cases e
  · exact e rfl
end
section
variable {ds:List Deferred} {N:Nat} {a:Act} {l:List (Nat × Value)} {w w0:World} {P:Program} {ops:Array Oper} {Q:Exit → Act → World → Prop} {o:Oper} {Kont:Act → World → Prop} {d:Nat}
theorem b_ret0 (S:St N a l) {fn:Func} {R:Ending → World → Prop} (hr:fn.results = #[]) (hR:∀ v,R (.returned v) w):bodyPost P fn R .ret a w :=
  ⟨S.defers,_,by simp [results,hr];rfl,hR _⟩
end
end Go.Proofs.YtjinaepmpoclaaaGreatDoor
namespace Go.Proofs.YtjinaepmpoclaaaGreatDoor
open Go.RowKit
section
variable {ds:List Deferred} {N:Nat} {a:Act} {l:List (Nat × Value)} {w w0:World} {P:Program} {ops:Array Oper} {Q:Exit → Act → World → Prop} {rest:List Oper} {o:Oper} {Kont:Act → World → Prop} {d:Nat} {K:Nat → Prop} {n:Nat} {L:List (Option Nat)}
theorem c_t (S:StD ds N a l) {T:TypeId} {parts:Array (Nat × Operand)} {m:Nat} {e:GT} {z0 x:List (PT e)} {vs:List Value} (z:Value) (ze:PT e) (ho:o.op = .build T parts) (ht:tiQ P (.arr m e) false T [] 0 = true) (hz:(P.info? T).bind (·.zero) = some z) (R:∀ w K,RepCs (.arr m e) w K z.cells.toList z0) (hd:o.dst = some d) (hN:Nat.blt d N = true)
    (hv:evs l (parts.toList.map (·.2)) = some vs) (ps:List (Nat × Value)) (hps:ps = (parts.toList.map (·.1)).zip vs) (hp:e.isPair = false) (F:FillsA m e w K ps z0 x) (k:∀ a' v,RepV (.arr m e) w K v x → StD ds N a' ((d,v) :: l) → Kont a' w):o.wp P a w Kont Q:=by
  obtain ⟨E,hE,hte⟩:=b_s ht
  obtain ⟨i,hi,hsz⟩:=a_u ht
  obtain ⟨j,hj,hjs⟩:=a_u hte
  have hz0:i.zero = some z:=by rw [hi] at hz;exact hz
  obtain ⟨cs',hfill,hrep⟩:=d_i ze ps z.cells.toList z0 x hp (R w K) F
  have hparts:(parts.map fun (p:Nat × Operand)=>(p.1,a.eval p.2)).toList = ps:=by
    rw [hps,← S.evs hv,Array.toList_map]
    induction parts.toList with
    | nil=>rfl
    | cons p r ih=>simp [ih]
  refine a_s S (v:=.agg cs'.toArray) hd hN ?_ fun a'=>k a' _ ⟨cs',hrep,rfl⟩
  have hpm:parts.map (fun (x:Nat × Operand)=>match x with | (i,x)=>(i,a.eval x)) = parts.map fun (p:Nat × Operand)=>(p.1,a.eval p.2):=rfl
  have hfill':Instr.fill (fun i=>some (i * e.sz,e.sz)) z.cells ps = some cs'.toArray:=by simpa using hfill
  simp only [execOp,ho,hpm,Instr.build,zeroValue,typeInfo,sizeOf,Sem.run_bind,run_program,hi,hj,hjs,Result.andThen_ok,Sem.run_pure,hz0,run_underlying hE,hparts,hfill']
def appF {α:Type} (s:Sl α) (ys:List α):Option (List α):=if s.cap = some s.xs.length ∧ ys ≠ [] ∧ s.xs.length + ys.length ≤ 1099511627776 then some (s.xs ++ ys) else .none
theorem c_O (S:StD ds N a l) (W:Wd w0 w L) {s x:Operand} {T E:TypeId} {e:GT} {v u:Value} {r:List (PT e)} {xs ys:Sl (PT e)} (ho:o.op = .call { callee:=.builtin .append,args:=#[s,x],argTypes:=#[T,T] }) (ht:tiQ P (.sl e) false T [] 0 = true) (hE:P.underlying T = some (.slice E)) (hby:bytesB P T e = true) (hd:o.dst = some d) (hN:Nat.blt d N = true)
    (hs:ev l s = some v) (hx:ev l x = some u) (R0:RepV (.sl e) w (Kx K w0.heap.size L) v xs) (R:RepV (.sl e) w (Kx K w0.heap.size L) u ys) (hr:appF xs ys.xs = some r)
    (k:∀ a' w' v',NewO w w' v'.ownBlock → Ow e E w' w0.heap.size (Kx K w0.heap.size (v'.ownBlock :: L)) v' r .none → StD ds N a' ((d,v') :: l) → Kont a' w'):o.wp P a w Kont Q:=by
  unfold appF at hr
  split at hr
  · rename_i hcnd
    obtain ⟨hcap,hne,hle⟩:=hcnd
    obtain rfl:=Option.some.inj hr
    obtain ⟨A0,m0,c0,rfl,hm0,hmc0,_,hq0,hrow0⟩:=R0.sl
    obtain ⟨A,m,cu,rfl,hm,hmc,hc63,_,hrow⟩:=R.sl
    obtain rfl:c0 = xs.xs.length:=hq0 _ hcap
    obtain ⟨E',hE',htE⟩:=a_V ht
    obtain rfl:E = E':=by rw [hE] at hE';injection hE' with h;injection h
    obtain ⟨ie,hie,hse⟩:=a_u htE
    unfold bytesB at hby
    rw [hE] at hby
    simp only [hie,Option.any_some,Bool.and_eq_true,Nat.blt_eq,Nat.ble_eq] at hby
    obtain ⟨hsz,hbytes,hz⟩:=hby
    obtain ⟨z,hz0,hz1⟩:∃ z,ie.zero = some z ∧ z.cells.size = e.sz:=by
      cases hzz:ie.zero with
      | none=>rw [hzz] at hz;cases hz
      | some z=>rw [hzz] at hz;exact ⟨z,rfl,by simpa using hz⟩
    obtain ⟨d0,hd0,hA0⟩:=hrow0.cells
    obtain ⟨d1,hd1,hA⟩:=hrow.cells
    have hmpos:0 < m:=by rw [← hm];exact List.length_pos_iff.2 hne
    obtain ⟨b,off,rfl,hb,hKb,hcell⟩:=hA.resolve_left hne
    have hl0:=hd0.len
    have hl1:=hd1.len
    have hb2:(m0 + m) * ie.bytes ≤ 140737488355328:=by
      have:(m0 + m) * ie.bytes ≤ 1099511627776 * 128:=Nat.mul_le_mul (by omega) hbytes
      omega
    have key:∃ v' w',(Builtin.append_ #[T,T] o.type #[.slice A0 m0 xs.xs.length,.slice (some ⟨b,off,.none⟩) m cu]).run P w = .ok v' w' ∧ w'.ownsRow w.heap.size E e.sz v' (m0 + m) (d0 ++ d1) ∧ w.grownBy w' none:=by
      cases A0 with
      | some ad =>
        have hcell0:∀ j q,d0[j]? = some q → w.cell? (ad.add j) = some q:=by
          intro j q hq
          rcases hA0 with h0 | ⟨b0,off0,e0,_,_,h0⟩
          · have:d0 = []:=List.eq_nil_of_length_eq_zero (by rw [hl0];simp [GT.sz,h0])
            rw [this] at hq;cases hq
          · injection e0 with e0;subst e0;rw [Addr.add_lit];exact h0 j q hq
        exact run_append_arg_grows (P:=P) w T o.type E ie z e.sz ie.bytes hE hie hz0 hse rfl hz1 hsz ad m0 xs.xs.length d0 (by rw [hl0];simp [GT.sz,hm0]) hcell0 ⟨b,off,.none⟩ m cu d1 (by rw [hl1];simp [GT.sz,hm]) (fun j q hq=>by rw [Addr.add_lit];exact hcell j q hq) (by omega) (by simp only [maxLen];omega) hb2
      | none =>
        have hx0:xs.xs = []:=by
          rcases hA0 with h0 | ⟨b0,off0,e0,_⟩
          · exact h0
          · cases e0
        have hm00:m0 = 0:=by rw [← hm0,hx0];rfl
        subst hm00
        have hd00:d0 = []:=List.eq_nil_of_length_eq_zero (by rw [hl0];simp [GT.sz,hx0])
        subst hd00
        obtain ⟨v',w',hrun,r1,r2,_⟩:=run_append_own_at (P:=P) w w.heap.size T o.type E ie z e.sz ie.bytes hE hie hz0 hse rfl hz1 hsz (.slice none 0 0) 0 [] (World.ownsRow_nil w _ E e.sz) ⟨b,off,.none⟩ m cu d1 (by rw [hl1];simp [GT.sz,hm]) (fun j q hq=>by rw [Addr.add_lit];exact hcell j q hq) hd1.one (by simp only [maxLen];omega) hb2 (Nat.le_refl _)
        exact ⟨v',w',by simpa [hx0] using hrun,r1,r2⟩
    obtain ⟨v',w',hrun,a1,a2⟩:=key
    have hbel:Below w.heap.size w w':=⟨a2.os,a2.tape,a2.output,a2.size,fun k hk=>a2.block k hk (by simp)⟩
    have hO:NewO w w' v'.ownBlock:=⟨hbel,fun q hq=>(a1.lt q hq).1,fun q hq=>(a1.lt q hq).2⟩
    have hlen:(xs.xs ++ ys.xs).length = m0 + m:=by rw [List.length_append,hm0,hm]
    have hrep:RepCs (.arr (xs.xs ++ ys.xs).length e) w (Kx K w0.heap.size L) (d0 ++ d1) (xs.xs ++ ys.xs):=b_X hd0 hd1
    refine a_s S (v:=v') (w':=w') hd hN (by simp [execOp,ho,resolve,invoke,builtin,S.eval hs,S.eval hx,hrun]) fun a'=>k a' w' v' hO ⟨d0 ++ d1,?_,hrep.keep (Keeps.below hbel) fun c hc hk=>Kx.newO hO hc hk,fun q hq=>by cases hq⟩
    rw [hlen]
    have hw:=W.below.size
    rcases a1 with ⟨h1,h2 | ⟨g,cap,cur,e1,e2,e3⟩⟩
    · exact ⟨h1,.inl h2⟩
    · exact ⟨h1,.inr ⟨g,cap,cur,e1,Nat.le_trans hw e2,e3⟩⟩
  · cases hr
end
end Go.Proofs.YtjinaepmpoclaaaGreatDoor
namespace Go.Proofs.YtjinaepmpoclaaaGreatDoor
open Go.RowKit
def Lx (t s t' s':GT) (get:PT t → PT s) (set:PT s' → PT t → PT t'):Prop :=
  ∀ w K cs x,RepCs t w K cs x → ∃ c1 c c2,cs = c1 ++ c ++ c2 ∧ RepCs s w K c (get x) ∧ ∀ cn y,cn.length = c.length → RepCs s' w K cn y → RepCs t' w K (c1 ++ cn ++ c2) (set y x)
theorem Lx.here {s s':GT}:Lx s s s' s' id (fun y _=>y):=fun w K cs x h=>⟨[],cs,[],by simp,h,fun cn y _ hy=>by simpa using hy⟩
theorem Lx.st {f s f' s':GT} {get:PT f → PT s} {set:PT s' → PT f → PT f'} (h:Lx f s f' s' get set):Lx (.st f) s (.st f') s' get set:=h
theorem Lx.right {a b s b' s':GT} {get:PT b → PT s} {set:PT s' → PT b → PT b'} (h:Lx b s b' s' get set):Lx (.pair a b) s (.pair a b') s' (fun x=>get x.2) (fun y x=>(x.1,set y x.2)):=by
  rintro w K cs x ⟨c1,c2,e,h1,h2⟩
  obtain ⟨d1,d,d2,e',er,es⟩:=h w K c2 x.2 h2
  exact ⟨c1 ++ d1,d,d2,by rw [e,e'];simp,er,fun cn y hl hy=>⟨c1,d1 ++ cn ++ d2,by simp,h1,es cn y hl hy⟩⟩
section
variable {w:World} {K:Nat → Prop} {b n:Nat} {t t' e:GT} {T:TypeId} {L:List (Option Nat)}
theorem Lx.toRaw {get:PT t → PT (.sl e)} {set:Value → PT t → PT t'} (ln:Lx t (.sl e) t' .raw get set) {cs:List Value} {x:PT t} (h:RepCs t w K cs x):∃ v,RepCs t' w K cs (set v x):=by
  obtain ⟨c1,c,c2,rfl,⟨A,n,c0,rfl,_⟩,es⟩:=ln w K cs x h
  exact ⟨_,es [.slice A n c0] (.slice A n c0) rfl ⟨rfl,rfl⟩⟩
theorem Lx.unraw {get:PT t → Value} {set:PT (.sl e) → PT t → PT t'} (ln:Lx t .raw t' (.sl e) get set) {cs:List Value} {x:PT t} {y:Sl (PT e)} (h:RepCs t w K cs x) (hv:RepV (.sl e) w K (get x) y):RepCs t' w K cs (set y x):=by
  obtain ⟨c1,c,c2,rfl,⟨rfl,_⟩,es⟩:=ln w K cs x h
  obtain ⟨cs,⟨A,n,c0,rfl,h3⟩,e1⟩:=hv
  have e1:get x = .slice A n c0:=e1
  rw [e1]
  exact es [.slice A n c0] y rfl ⟨A,n,c0,rfl,h3⟩
theorem Bx.toRawX {get:PT t → PT (.sl e)} {set:Value → PT t → PT t'} (ln:Lx t (.sl e) t' .raw get set) {x:PT t} (h:Bx t T w K b x):∃ v,Bx t' T w K b (set v x):=by
  obtain ⟨cs,h1,h2⟩:=h
  obtain ⟨v,hv⟩:=ln.toRaw h2
  exact ⟨v,cs,h1,hv⟩
theorem Bx.unrawX {get:PT t → Value} {set:PT (.sl e) → PT t → PT t'} (ln:Lx t .raw t' (.sl e) get set) {x:PT t} {y:Sl (PT e)} (h:Bx t T w K b x) (hv:RepV (.sl e) w K (get x) y):Bx t' T w K b (set y x):=by
  obtain ⟨cs,h1,h2⟩:=h
  exact ⟨cs,h1,ln.unraw h2 hv⟩
end
theorem a_4 (b m:Nat):(⟨b,0,.none⟩:Addr).add m = ⟨b,m,.none⟩:=by rw [addr_add,Nat.zero_add]
instance slDec {α:Type} [DecidableEq α]:DecidableEq (Sl α):=fun a b =>
  if h:a.xs = b.xs ∧ a.cap = b.cap then isTrue (by obtain ⟨x,c⟩:=a;obtain ⟨y,d⟩:=b;obtain ⟨h1,h2⟩:=h;simp only at h1 h2;rw [h1,h2]) else isFalse (by rintro rfl;exact h ⟨rfl,rfl⟩)
section
variable {w:World} {K:Nat → Prop} {b n:Nat} {t e:GT} {T E:TypeId} {L:List (Option Nat)}
end
end Go.Proofs.YtjinaepmpoclaaaGreatDoor
namespace Go.Proofs.YtjinaepmpoclaaaGreatDoor
open Go.RowKit
section
variable {w0 w w' A B:World} {L P Q LO LO':List (Option Nat)} {K:Nat → Prop} {n n0 b m:Nat} {t:GT} {o:Option Nat} {u:Value} {p:Addr} {x:PT t} {T:TypeId}
theorem c_Z {i:Nat} (hi:L[i]? = some o) {y:Option Nat} (h:y ∈ o :: L.eraseIdx i):y ∈ L:=by
  rcases List.mem_cons.1 h with e | h
  · rw [e];exact List.mem_of_getElem? hi
  · exact (List.eraseIdx_sublist _ _).subset h
theorem mv_perm:∀ {L:List (Option Nat)} {i:Nat},L[i]? = some o → (o :: L.eraseIdx i).Perm L
  | [],_,h=>by simp at h
  | y :: L,0,h=>by
    obtain rfl:y = o:=by simpa using h
    exact List.Perm.refl _
  | y :: L,i + 1,h=>(List.Perm.swap y o (L.eraseIdx i)).trans ((mv_perm (L:=L) (i:=i) (by simpa using h)).cons y)
theorem RepV.mv (h:RepV t w (Kx K n L) u x) (i:Nat) (hi:L[i]? = some o):RepV t w (Kx K n (o :: L.eraseIdx i)) u x:=h.keep (Keeps.refl _ _) fun c _ hk=>⟨hk.1,fun hm=>hk.2 (c_Z hi hm)⟩
theorem Pr.mv (h:Pr t w (Kx K n L) p x) (i:Nat) (hi:L[i]? = some o):Pr t w (Kx K n (o :: L.eraseIdx i)) p x:=h.keep (Keeps.refl _ _) fun c _ hk=>⟨hk.1,fun hm=>hk.2 (c_Z hi hm)⟩
theorem Bx.mv (h:Bx t T w (Kx K n L) b x) (i:Nat) (hi:L[i]? = some o):Bx t T w (Kx K n (o :: L.eraseIdx i)) b x:=by
  obtain ⟨cs,h1,h2⟩:=h
  exact ⟨cs,h1,h2.keep (Keeps.refl _ _) fun c _ hk=>⟨hk.1,fun hm=>hk.2 (c_Z hi hm)⟩⟩
theorem Ow.mv {e:GT} {E:TypeId} {v:Value} {xs:List (PT e)} {c:Option Nat} (h:Ow e E w m (Kx K n L) v xs c) (i:Nat) (hi:L[i]? = some o):Ow e E w m (Kx K n (o :: L.eraseIdx i)) v xs c:=by
  obtain ⟨cs,h1,h2,h3⟩:=h
  exact ⟨cs,h1,h2.keep (Keeps.refl _ _) fun c _ hk=>⟨hk.1,fun hm=>hk.2 (c_Z hi hm)⟩,h3⟩
theorem Wd.mv (h:Wd w0 w L) (i:Nat) (hi:L[i]? = some o):Wd w0 w (o :: L.eraseIdx i) :=
  ⟨h.below,fun c hc=>h.own c (c_Z hi hc),((mv_perm hi).pairwise_iff (fun {x y} h=>by
    rcases h with h | h
    · subst h
      cases y with
      | none=>exact .inl rfl
      | some y=>exact .inr (by simp)
    · exact .inr fun e=>h e.symm)).2 h.dis⟩
theorem Rnd.mv {LO:List (Option Nat)} (h:Rnd A LO w L) (i:Nat) (hi:L[i]? = some o):Rnd A LO w (o :: L.eraseIdx i):=⟨h.os,h.tape,h.output,h.size,h.keep,fun b hl hm=>h.old b hl (c_Z hi hm)⟩
theorem Wd.front (h:Wd w0 w (P ++ LO)):Wd w0 w P:=h.less (List.sublist_append_left _ _)
theorem Yst.kkf (hy:Yst n A P B Q) {c:Nat} (hc:c < A.heap.size) (hk:Kx K n0 (P ++ LO) c):Kx K n0 (Q ++ LO) c :=
  ⟨hk.1,fun hm=>hk.2 (by
    rcases List.mem_append.1 hm with hm | hm
    · exact List.mem_append.2 (.inl (hy.old c hc hm))
    · exact List.mem_append.2 (.inr hm))⟩
theorem Yst.keepsf (hy:Yst n A P B Q):Keeps (Kx K n0 (P ++ LO)) A B:=⟨hy.size,fun p hp hk=>World.cell?_of_block (hy.keep _ hp fun hm=>hk.2 (List.mem_append.2 (.inl hm)))⟩
theorem RepV.yfr (LO:List (Option Nat)) (h:RepV t A (Kx K n0 (P ++ LO)) u x) (hy:Yst n A P B Q):RepV t B (Kx K n0 (Q ++ LO)) u x:=h.keep hy.keepsf fun c hc hk=>hy.kkf hc hk
theorem Yst.apart (hy:Yst n A P B Q) (W:Wd w0 A (P ++ LO)) (hb:some b ∈ LO):some b ∉ P:=fun hm=>by
  rcases (List.pairwise_append.1 W.dis).2.2 _ hm _ hb with e | e
  · cases e
  · exact e rfl
theorem Ow.yfr (LO:List (Option Nat)) {e:GT} {E:TypeId} {v:Value} {xs:List (PT e)} {c:Option Nat} (h:Ow e E A m (Kx K n0 (P ++ LO)) v xs c) (hy:Yst n A P B Q) (W:Wd w0 A (P ++ LO)) (hb:v.ownBlock ∈ LO):Ow e E B m (Kx K n0 (Q ++ LO)) v xs c:=by
  obtain ⟨cs,h1,h2,h3⟩:=h
  refine ⟨cs,b_R h1 fun g ob hg ho _=>?_,h2.keep hy.keepsf fun c hc hk=>hy.kkf hc hk,h3⟩
  rw [hg] at hb
  exact (hy.keep g (Array.getElem?_eq_some_iff.1 ho).1 (hy.apart W hb)).trans ho
theorem Wd.yfr (LO:List (Option Nat)) (h:Wd w0 A (P ++ LO)) (hy:Yst w0.heap.size A P B Q):Wd w0 B (Q ++ LO):=by
  have hd:=List.pairwise_append.1 h.dis
  refine ⟨h.below.trans ⟨hy.os,hy.tape,hy.output,hy.size,fun k hk=>hy.keep k (by have:=h.below.size;omega) fun hm=>by have:=(h.own k (List.mem_append.2 (.inl hm))).1;omega⟩,fun c hc=>?_,List.pairwise_append.2 ⟨hy.dis,hd.2.1,fun y hz x hx=>?_⟩⟩
  · rcases List.mem_append.1 hc with hc | hc
    · exact hy.own c hc
    · have:=h.own c (List.mem_append.2 (.inr hc));have:=hy.size;omega
  · cases y with
    | none=>exact .inl rfl
    | some c =>
      refine .inr fun e=>?_
      subst e
      have hc:=(h.own c (List.mem_append.2 (.inr hx))).2
      rcases hd.2.2 _ (hy.old c hc hz) _ hx with e | e
      · cases e
      · exact e rfl
theorem Wd.obj (h:Wd w0 w L) (hb:some b ∈ L):∃ q,Ox q w b:=by
  have hl:=(h.own b hb).2
  exact ⟨w.heap[b],by rw [Array.getElem?_eq_getElem hl],trivial⟩
theorem Yst.less1 {q:Obj} (hy:Yst n A (some b :: LO) B (some b :: LO')) (h1:Ox q A b) (h2:Ox q B b):Yst n A LO B LO' :=
  ⟨hy.os,hy.tape,hy.output,hy.size,fun c hc hm=>by
    by_cases e:c = b
    · subst e;exact h2.1.trans h1.1.symm
    · exact hy.keep c hc fun k=>by
        rcases List.mem_cons.1 k with k | k
        · exact e (Option.some.inj k)
        · exact hm k,
   fun c hc hm=>by
    rcases List.mem_cons.1 (hy.old c hc (List.mem_cons.2 (.inr hm))) with k | k
    · obtain rfl:=Option.some.inj k
      rcases (List.pairwise_cons.1 hy.dis).1 _ hm with e | e
      · cases e
      · exact absurd rfl e
    · exact k,
   fun c hc=>hy.own c (List.mem_cons.2 (.inr hc)),(List.pairwise_cons.1 hy.dis).2⟩
end
structure Gs (w0:World) (I:List Nat) (L:List (Option Nat)) (s b:Nat) (F:GW → Prop) (g g':GW):Prop where
  os:g'.2.os = g.2.os
  tape:g'.2.tape = g.2.tape
  output:g'.2.output = g.2.output
  size:g.2.heap.size ≤ g'.2.heap.size
  block:∀ k,k < g.2.heap.size → (k = b → (g.1 s ≠ none ∨ g'.1 s = none)) → g'.2.heap[k]? = g.2.heap[k]?
  same:∀ j o,g.1 j = some o → g'.1 j = some o
  new:∀ j c,g.1 j = none → g'.1 j = some (some c) → g.2.heap.size ≤ c
  wd:Wd w0 g.2 (lm I L g.1) → Wd w0 g'.2 (lm I L g'.1)
  sto:g.1 s = none → g'.1 s ≠ none → F g'
section
variable {w0 w w' A B:World} {I:List Nat} {L LO:List (Option Nat)} {K:Nat → Prop} {n s b c m:Nat} {F:GW → Prop} {g g':GW} {M:Nat → Option (Option Nat)} {t:GT} {u:Value} {x:PT t} {T:TypeId}
end
section
variable {P:Program} {Q:Exit → Act → World → Prop} {a0:Act} {w0 w:World}
variable {ds:List Deferred} {N d i s b:Nat} {A:Act} {l:List (Nat × Value)} {v:Value} {f:Value → GW → Prop} {w':World} {M:Nat → Option (Option Nat)} {I:List Nat} {L:List (Option Nat)} {F:GW → Prop}
end
end Go.Proofs.YtjinaepmpoclaaaGreatDoor
namespace Go.Proofs.YtjinaepmpoclaaaGreatDoor
open Go.RowKit
@[reducible] def pB (b:Nat):Value:=.pointer (some (⟨b,0,.none⟩:Addr))
section
variable {w0 w w' A:World} {L P LO:List (Option Nat)} {K:Nat → Prop} {n b m:Nat} {t:GT} {u:Value} {p:Addr} {x:PT t} {T:TypeId}
theorem Kx.newW {c:Nat} (hN:Wd w w' P) (hc:c < w.heap.size) (hk:Kx K n L c):Kx K n (P ++ L) c:=⟨hk.1,fun hm=>by
  rcases List.mem_append.1 hm with hm | hm
  · have:=(hN.own c hm).1;omega
  · exact hk.2 hm⟩
theorem RepV.newW (h:RepV t w (Kx K n L) u x) (hN:Wd w w' P):RepV t w' (Kx K n (P ++ L)) u x:=h.keep (Keeps.below hN.below) fun c hc hk=>Kx.newW hN hc hk
theorem Wd.newW (h:Wd w0 w L) (hN:Wd w w' P):Wd w0 w' (P ++ L):=by
  have hs:=hN.below.size
  have hz:=h.below.size
  refine ⟨h.below.trans (hN.below.mono hz),fun c hm=>?_,List.pairwise_append.2 ⟨hN.dis,h.dis,fun y hy z hz=>?_⟩⟩
  · rcases List.mem_append.1 hm with hm | hm
    · have:=hN.own c hm;omega
    · have:=h.own c hm;omega
  · cases y with
    | none=>exact .inl rfl
    | some c =>
      refine .inr fun e=>?_
      subst e
      have:=(hN.own c hy).1;have:=(h.own c hz).2;omega
theorem Kx.backW {c:Nat} (hW:Wd w0 w L) (hk:Kx (Kx K w0.heap.size L) w.heap.size P c):Kx K w0.heap.size (P ++ L) c:=by
  obtain ⟨h1,h2⟩:=hk
  rcases h1 with h1 | h1
  · exact ⟨h1.1,fun hm=>by
      rcases List.mem_append.1 hm with hm | hm
      · exact h2 hm
      · exact h1.2 hm⟩
  · refine ⟨.inr (by have:=hW.below.size;omega),fun hm=>?_⟩
    rcases List.mem_append.1 hm with hm | hm
    · exact h2 hm
    · have:=(hW.own c hm).2;omega
theorem RepV.backW (h:RepV t w' (Kx (Kx K w0.heap.size L) w.heap.size P) u x) (hW:Wd w0 w L):RepV t w' (Kx K w0.heap.size (P ++ L)) u x:=h.keep (Keeps.refl _ _) fun c _ hk=>Kx.backW hW hk
end
section
variable {w:World} {K:Nat → Prop} {e:GT}
end
section
variable {ds:List Deferred} {N:Nat} {a:Act} {l:List (Nat × Value)} {w w0:World} {P:Program} {ops:Array Oper} {Q:Exit → Act → World → Prop} {rest:List Oper} {o:Oper} {Kont:Act → World → Prop} {d:Nat} {K:Nat → Prop} {n:Nat} {L:List (Option Nat)}
end
section
variable {ds:List Deferred} {N:Nat} {a:Act} {l:List (Nat × Value)} {w:World} {P:Program} {ops:Array Oper} {Q:Exit → Act → World → Prop}
end
end Go.Proofs.YtjinaepmpoclaaaGreatDoor
namespace Go.Proofs.YtjinaepmpoclaaaGreatDoor
open Go.RowKit
section
variable {w0 w A:World} {I:List Nat} {L L2 LO:List (Option Nat)} {s b:Nat} {F:GW → Prop} {g g':GW}
end
section
variable {ds:List Deferred} {N:Nat} {a:Act} {l:List (Nat × Value)} {w w0:World} {P:Program} {ops:Array Oper} {Q:Exit → Act → World → Prop} {rest:List Oper} {o:Oper} {Kont:Act → World → Prop} {d:Nat} {K:Nat → Prop} {n:Nat} {L:List (Option Nat)}
end
end Go.Proofs.YtjinaepmpoclaaaGreatDoor
namespace Go.Proofs.YtjinaepmpoclaaaGreatDoor
open Go.RowKit
section
variable {P:Program} {ops:Array Oper} {Q:Exit → Act → World → Prop} {a0 A:Act} {w0 w:World} {ds:List Deferred} {N d i s b:Nat} {l:List (Nat × Value)} {v:Value} {o:Oper} {M:Nat → Option (Option Nat)} {I:List Nat} {L:List (Option Nat)}
theorem RPost.one {R:World → World → Prop} {f:Value → World → Prop} (S:StD ds N A l) (tys:List (TypeId × GT)) (ht:tysOk P tys = true) (hd:o.dst = some d) (h:(a_h tys ops N [o] l).bind (fun q=>lk q d) = some v) (h0:a0.defers = ds) (hf:f v w) (hb:R w w) :
    FillE w [] A (fun B=>wpList P ops (a_0 R o.dst f a0.defers w Q) [o] B w):=by
  show wpList P ops _ [o] A w
  obtain ⟨q,h1,h2⟩:=Option.bind_eq_some_iff.1 h
  refine a_O S tys ht 1 (l0:=[o]) h1 fun a' S'=>?_
  rw [hd]
  exact wpList_nil (RPost.mk_ S' h2 h0 hf hb)
end
end Go.Proofs.YtjinaepmpoclaaaGreatDoor
namespace Go.Proofs.YtjinaepmpoclaaaGreatDoor
open Go.RowKit
section
variable {w w':World} {n:Nat} {K:Nat → Prop} {L:List (Option Nat)} {e:GT} {E:TypeId} {v:Value} {xs:List (PT e)} {c:Option Nat}
end
section
variable {ds:List Deferred} {N:Nat} {a:Act} {l:List (Nat × Value)} {w w0:World} {P:Program} {ops:Array Oper} {Q:Exit → Act → World → Prop} {rest:List Oper} {o:Oper} {Kont:Act → World → Prop} {d:Nat} {K:Nat → Prop} {n:Nat} {L:List (Option Nat)}
end
end Go.Proofs.YtjinaepmpoclaaaGreatDoor
namespace Go.Proofs.YtjinaepmpoclaaaGreatDoor
open Go.RowKit
@[reducible] def d_o:Value → Option Nat
  | .pointer (some a)=>some a.block
  | _=>.none
def Opt1 (t:GT) (T:TypeId) (w:World) (K:Nat → Prop) (v:Value) (x:Option (PT t)):Prop:=(v = .pointer .none ∧ x = .none) ∨ ∃ b y,v = pB b ∧ x = some y ∧ Bx t T w K b y
def optK {α γ:Type} (o:Option α) (a:Option γ) (f:α → Option γ):Option γ:=match o with | .none=>a | some y=>f y
theorem optK_none {α γ:Type} {o:Option α} {a:Option γ} {f:α → Option γ} {r:γ} (ho:o = .none) (h:optK o a f = some r):a = some r:=by subst ho;exact h
theorem optK_some {α γ:Type} {o:Option α} {a:Option γ} {f:α → Option γ} {r:γ} {y:α} (ho:o = some y) (h:optK o a f = some r):f y = some r:=by subst ho;exact h
section
variable {w0 w w':World} {L P:List (Option Nat)} {K:Nat → Prop} {n b:Nat} {t:GT} {v:Value} {T:TypeId}
theorem Bx.backW {x:PT t} (h:Bx t T w' (Kx (Kx K w0.heap.size L) w.heap.size P) b x) (hW:Wd w0 w L):Bx t T w' (Kx K w0.heap.size (P ++ L)) b x:=by
  obtain ⟨cs,h1,h2⟩:=h
  exact ⟨cs,h1,h2.keep (Keeps.refl _ _) fun c _ hk=>Kx.backW hW hk⟩
theorem Opt1.backW {x:Option (PT t)} (h:Opt1 t T w' (Kx (Kx K w0.heap.size L) w.heap.size P) v x) (hW:Wd w0 w L):Opt1 t T w' (Kx K w0.heap.size (P ++ L)) v x:=by
  rcases h with h | ⟨b,y,h1,h2,h3⟩
  · exact .inl h
  · exact .inr ⟨b,y,h1,h2,h3.backW hW⟩
theorem Opt1.fr (P LO:List (Option Nat)) {x:Option (PT t)} (h:Opt1 t T w (Kx K n (P ++ LO)) v x):Opt1 t T w (Kx K n P) v x:=by
  rcases h with h | ⟨b,y,h1,h2,h3⟩
  · exact .inl h
  · exact .inr ⟨b,y,h1,h2,h3.less (List.sublist_append_left _ _)⟩
theorem Opt1.open {α:Type} {f:α → PT t} {r:Option α} (h:Opt1 t T w K v (r.map f)):(v = .pointer .none ∧ r = .none) ∨ ∃ b y,v = pB b ∧ r = some y ∧ Bx t T w K b (f y):=by
  rcases h with ⟨h1,h2⟩ | ⟨b,y,h1,h2,h3⟩
  · cases r with
    | none=>exact .inl ⟨h1,rfl⟩
    | some z=>cases h2
  · cases r with
    | none=>cases h2
    | some z=>exact .inr ⟨b,z,h1,rfl,by cases h2;exact h3⟩
theorem Opt1.nil:Opt1 t T w K (.pointer .none) .none:=.inl ⟨rfl,rfl⟩
theorem Opt1.bx {x:PT t} (h:Bx t T w K b x):Opt1 t T w K (pB b) (some x):=.inr ⟨b,x,rfl,rfl,h⟩
theorem Bx.all {x:PT t} (h:Bx t T w (Kx K n L) b x):Bx t T w (Kx K n []) b x:=h.less (List.nil_sublist _)
end
section
variable {ds:List Deferred} {N:Nat} {a:Act} {l:List (Nat × Value)} {w w0:World} {P:Program} {ops:Array Oper} {Q:Exit → Act → World → Prop} {rest:List Oper} {o:Oper} {Kont:Act → World → Prop} {d:Nat}
def ptrB (P:Program) (T:TypeId):Bool:=match P.underlying T with | some (.pointer _)=>true | _=>false
theorem d_p {T:TypeId} (ht:ptrB P T = true) (A:Option Addr):(Op.equal T (.pointer A) (.pointer .none)).run P w = .ok A.isNone w:=by
  unfold ptrB at ht
  split at ht
  · rename_i hu
    show (Op.equalIn (9999 + 1) T (.pointer A) (.pointer .none)).run P w = _
    rw [Op.equalIn]
    simp only [Sem.run_bind,run_underlying hu,Result.andThen_ok]
    cases A <;> rfl
  · cases ht
theorem c_l (S:StD ds N a l) {T T':TypeId} {x y:Operand} {A:Addr} (ho:o.op = .binOp .eql T x y T') (ht:ptrB P T = true) (hd:o.dst = some d) (hN:Nat.blt d N = true)
    (hx:ev l x = some (.pointer (some A))) (hy:ev l y = some (.pointer .none)) (k:∀ a',StD ds N a' ((d,.bool false) :: l) → Kont a' w):o.wp P a w Kont Q:=by
  refine a_s S hd hN ?_ k
  simp [execOp,ho,S.eval hx,S.eval hy,eqGuard,binOp,d_p ht]
theorem d_7 (S:StD ds N a l) {T T':TypeId} {x y:Operand} {A:Addr} (ho:o.op = .binOp .neq T x y T') (ht:ptrB P T = true) (hd:o.dst = some d) (hN:Nat.blt d N = true)
    (hx:ev l x = some (.pointer (some A))) (hy:ev l y = some (.pointer .none)) (k:∀ a',StD ds N a' ((d,.bool true) :: l) → Kont a' w):o.wp P a w Kont Q:=by
  refine a_s S hd hN ?_ k
  simp [execOp,ho,S.eval hx,S.eval hy,eqGuard,binOp,d_p ht]
end
end Go.Proofs.YtjinaepmpoclaaaGreatDoor
namespace Go.Proofs.YtjinaepmpoclaaaGreatDoor
open Go.RowKit
def a_r (m:Nat):List Nat → Array Bool
  | []=>Array.replicate m false
  | i :: D=>(a_r m D).setIfInBounds i true
def An (P:Program) (l:List Oper) (Q:Exit → Act → World → Prop) (m k:Nat) (D:List Nat) (a:Act) (w:World):Prop:=wpAny P .any l.toArray Q k (a_r m D) a w
def d_S (P:Program) (l:List Oper) (Q:Exit → Act → World → Prop) (m k:Nat) (D:List Nat) (a:Act) (w:World) (i:Nat):Prop:=wpOp P l.toArray Q i (fun a' w'=>An P l Q m k (i :: D) a' w') a w
def AnForks (P:Program) (l:List Oper) (Q:Exit → Act → World → Prop) (m k:Nat) (D:List Nat) (a:Act) (w:World):List Nat → Prop
  | []=>True
  | i :: is=>d_S P l Q m k D a w i ∧ AnForks P l Q m k D a w is
theorem AnForks.get {P:Program} {l:List Oper} {Q:Exit → Act → World → Prop} {m k:Nat} {D:List Nat} {a:Act} {w:World}:∀ {is:List Nat},AnForks P l Q m k D a w is → ∀ i ∈ is,d_S P l Q m k D a w i
  | j :: is,h,i,hi=>by
    rcases List.mem_cons.1 hi with rfl | hi
    · exact h.1
    · exact AnForks.get h.2 i hi
def PanicOk (Q:Exit → Act → World → Prop):Prop:=∀ c (a a':Act) w,a.defers = a'.defers → Q (.panic c) a w → Q (.panic c) a' w
theorem PanicOk.put {Q:Exit → Act → World → Prop} (h:PanicOk Q):∀ c d v a w,Q (.panic c) (a.put d v) w → Q (.panic c) a w:=fun c d v a w=>h c _ _ w (by cases d <;> rfl)
theorem b_5 {P:Program} {fn:Func} {R:Ending → World → Prop}:PanicOk (bodyPost P fn R):=fun _ _ _ _ hd h=>⟨hd ▸ h.1,h.2⟩
theorem b_6 {K:Act → World → Prop} {Q:Exit → Act → World → Prop} (h:PanicOk Q):PanicOk (Exit.then K Q):=fun c a a' w hd hq=>h c a a' w hd hq
theorem c_K {id:Nat} {Q:Exit → Act → World → Prop} (h:PanicOk Q):PanicOk (Exit.inBlock id Q):=fun c a a' w hd hq=>h c a a' w hd hq
def a_Z (l:List Oper) (m:Nat):List Nat → List Nat → Bool
  | _,[]=>true
  | D,i :: is=>Region.free .any l.toArray (a_r m D) i && (Region.ready .any l.toArray (a_r m D)).contains i && a_Z l m (i :: D) is
section
variable {ds:List Deferred} {N:Nat} {a:Act} {l0 l1:List (Nat × Value)} {w:World} {P:Program} {l:List Oper} {Q:Exit → Act → World → Prop} {o:Oper} {m k i:Nat} {D:List Nat}
theorem b_B {id:Nat} (m:Nat) (hm:P.follows .mixedOrders = true) (hl:l.length = m) (hQ:PanicOk Q) (h:∀ w',Below w.heap.size w w' → PanicOk Q → An P l Q m m [] a w'):(Code.region id l.toArray true).wp P Q a w:=by
  subst hl
  refine wp_region_any hm ?_
  have:=h { w with drawn:=w.drawn + 1 } ⟨rfl,rfl,rfl,Nat.le_refl _,fun _ _=>rfl⟩ hQ
  simpa [An,a_r] using this
theorem b_S (hr:Region.ready .any l.toArray (a_r m D) = []) (h:Q .normal a w):An P l Q m k D a w:=by
  unfold An
  cases k with
  | zero=>exact ⟨hr,h⟩
  | succ k=>exact ⟨fun _=>h,fun i hi=>by rw [hr] at hi;cases hi⟩
theorem b_C {is:List Nat} (hr:Region.ready .any l.toArray (a_r m D) = is) (hne:is.isEmpty = false) (h:AnForks P l Q m k D a w is):An P l Q m (k + 1) D a w:=by
  unfold An
  refine ⟨fun he=>?_,fun i hi=>?_⟩
  · rw [hr] at he;subst he;cases hne
  · rw [hr] at hi
    exact h.get i hi
theorem a_S (ho:l[i]? = some o) (S:StD ds N a l0) (hg:gOk l.toArray l0 o = some true) (h:o.wp P a w (fun a' w'=>An P l Q m k (i :: D) a' w') Q):d_S P l Q m k D a w i:=by
  unfold d_S wpOp
  have ho':l.toArray[i]? = some o:=by simpa using ho
  simp only [ho']
  rw [if_pos (gOk.wanted S hg)]
  exact .inl h
theorem b_o (hr:Region.ready .any l.toArray (a_r m D) = [i]) (ho:l[i]? = some o) (S:StD ds N a l0) (hg:gOk l.toArray l0 o = some true) (h:o.wp P a w (fun a' w'=>An P l Q m k (i :: D) a' w') Q):An P l Q m (k + 1) D a w :=
  b_C hr rfl ⟨a_S ho S hg h,trivial⟩
theorem a_G (tys:List (TypeId × GT)) (ht:tysOk P tys = true) (hs:Region.noSelect l.toArray = true) (hQ:PanicOk Q):∀ (is:List Nat) {D:List Nat} {a:Act} {l0:List (Nat × Value)},StD ds N a l0 → a_Z l m D is = true → a_h tys l.toArray N (is.filterMap (l[·]?)) l0 = some l1 → (∀ a',StD ds N a' l1 → An P l Q m k (is.reverse ++ D) a' w) → An P l Q m (k + is.length) D a w
  | [],D,a,l0,S,_,hp,h=>by
    simp only [List.filterMap_nil,a_h,Option.some.injEq] at hp
    subst hp
    exact h a S
  | i :: is,D,a,l0,S,hc,hp,h=>by
    simp only [a_Z,Bool.and_eq_true] at hc
    obtain ⟨⟨hf,hr⟩,hc⟩:=hc
    have hi:i ∈ Region.ready .any l.toArray (a_r m D):=by simpa using hr
    obtain ⟨_,o,ho,_⟩:=mem_ready.1 hi
    have ho':l[i]? = some o:=by simpa using ho
    rw [List.filterMap_cons_some ho'] at hp
    have h':∀ a',StD ds N a' l1 → An P l Q m k (is.reverse ++ (i :: D)) a' w:=fun a' S'=>by
      have:=h a' S'
      simpa using this
    have fin:∀ (v:Value) (l2:List (Nat × Value)),Yields P l.toArray o v a → StD ds N (a.put o.dst v) l2 → a_h tys l.toArray N (is.filterMap (l[·]?)) l2 = some l1 → An P l Q m (k + (is.length + 1)) D a w:=fun v l2 hy S2 hp2 =>
      wpAny_first ho (Region.noSelect_spec hs) (fun c a w=>hQ.put c o.dst v a w) (k + is.length) (a_r m D) a w (Region.free_spec ho hf) hi hy (a_G tys ht hs hQ is S2 hc hp2 h')
    unfold a_h at hp
    split at hp
    · rename_i d hg hd
      split at hp
      · rename_i v hv
        split at hp
        · rename_i hN
          exact fin v _ (.inl ⟨gOk.wanted S hg,fun w=>c_B S o tys ht hv⟩) (by rw [hd];exact S.put (by simpa [Nat.blt_eq] using hN) v) hp
        · cases hp
      · cases hp
    · rename_i d hg hd
      split at hp
      · rename_i hN
        exact fin undef _ (.inr ⟨gOk.wanted S hg,rfl⟩) (by rw [hd];exact S.put (by simpa [Nat.blt_eq] using hN) undef) hp
      · cases hp
    · rename_i hg hd
      exact fin undef _ (.inr ⟨gOk.wanted S hg,rfl⟩) (by rw [hd];exact S) hp
    · cases hp
end
inductive DeadS {α:Type}:Sem α → Prop
  | prog (k:Program → Sem α):(∀ p,DeadS (k p)) → DeadS (.program k)
  | halt (h:Halt):DeadS (.halt h)
  | choose (q:Question) (k:Nat → Sem α):(∀ n,DeadS (k n)) → DeadS (.choose q k)
inductive WlS {α:Type}:Sem α → Prop
  | pure (a:α):WlS (.pure a)
  | prog (k:Program → Sem α):(∀ p,WlS (k p)) → WlS (.program k)
  | dead (m:Sem α):DeadS m → WlS m
theorem DeadS.bind {α β:Type} {m:Sem α} (h:DeadS m) (f:α → Sem β):DeadS (m >>= f):=by
  induction h with
  | prog k _ ih=>exact .prog _ ih
  | halt h=>exact .halt h
  | choose q k _ ih=>exact .choose q _ ih
theorem WlS.bind {α β:Type} {m:Sem α} {f:α → Sem β} (h:WlS m) (hf:∀ a,WlS (f a)):WlS (m >>= f):=by
  induction h with
  | pure a=>exact hf a
  | prog k _ ih=>exact .prog _ ih
  | dead m hd=>exact .dead _ (hd.bind f)
theorem DeadS.run {α:Type} {m:Sem α} (h:DeadS m) (P:Program):∀ w x w1,m.run P w ≠ .ok x w1:=by
  induction h with
  | prog k _ ih=>intro w x w1;exact ih P w x w1
  | halt h=>intro w x w1 e;cases e
  | choose q k _ ih =>
    intro w x w1 e
    simp only [Sem.run] at e
    split at e
    · exact ih _ _ _ _ e
    · exact ih _ _ _ _ e
theorem WlS.run {α:Type} {m:Sem α} (h:WlS m) (P:Program):∀ w w' x w1,m.run P w = .ok x w1 → w1 = w ∧ m.run P w' = .ok x w':=by
  induction h with
  | pure a=>intro w w' x w1 e;simp only [Sem.run,Result.ok.injEq] at e ⊢;exact ⟨e.2.symm,e.1,trivial⟩
  | prog k _ ih=>intro w w' x w1 e;exact ih P w w' x w1 e
  | dead m hd=>intro w w' x w1 e;exact absurd e (hd.run P w x w1)
theorem WlS.program:WlS Go.program:=.prog _ fun p=>.pure p
theorem DeadS.wbind {α β:Type} {m:Sem α} {f:α → Sem β} (h:WlS m) (hf:∀ a,DeadS (f a)):DeadS (m >>= f):=by
  induction h with
  | pure a=>exact hf a
  | prog k _ ih=>exact .prog _ ih
  | dead m hd=>exact hd.bind f
theorem DeadS.bounds {α:Type} (x y:Int) (s:Bool) (c:BoundsCode):DeadS (Go.runtimePanic (.bounds x y s c):Sem α):=by
  unfold Go.runtimePanic
  exact DeadS.wbind WlS.program fun p=>.halt _
theorem DeadS.boundsPanic {α:Type} (k:IntKind) (x y:Int) (c:BoundsCode):DeadS (Go.boundsPanic k x y c:Sem α):=by
  unfold Go.boundsPanic
  split
  · exact .choose _ _ fun n=>DeadS.bounds _ _ _ _
  · exact DeadS.bounds _ _ _ _
theorem WlS.typeInfo (t:TypeId):WlS (Go.typeInfo t):=by
  unfold Go.typeInfo
  refine WlS.bind WlS.program fun p=>?_
  split
  · exact .pure _
  · exact .dead _ (.halt _)
theorem WlS.underlying (t:TypeId):WlS (Go.underlying t):=by
  unfold Go.underlying
  refine WlS.bind WlS.program fun p=>?_
  split
  · exact .pure _
  · exact .dead _ (.halt _)
theorem WlS.sizeOf (t:TypeId):WlS (Go.sizeOf t):=WlS.bind (WlS.typeInfo t) fun _=>.pure _
theorem WlS.asIntOf (v:Value):WlS (Go.asIntOf v):=by
  unfold Go.asIntOf
  split
  · exact .pure _
  · exact .dead _ (.halt _)
  · exact .dead _ (.halt _)
theorem WlS.sliceBound (x:Value) (y:Nat) (c:BoundsCode):WlS (Instr.sliceBound x y c):=by
  unfold Instr.sliceBound
  refine WlS.bind (WlS.asIntOf x) fun p=>?_
  obtain ⟨k,i⟩:=p
  simp only
  split
  · exact .pure _
  · exact .dead _ (DeadS.boundsPanic _ _ _ _)
theorem DeadS.nilDeref {α:Type}:DeadS (Go.runtimePanic .nilDeref:Sem α):=by
  unfold Go.runtimePanic
  exact DeadS.wbind WlS.program fun p=>.halt _
theorem WlS.sureAddr (v:Value):WlS (Instr.sureAddr v):=by
  unfold Instr.sureAddr
  split
  · exact .pure _
  · exact .dead _ (.halt _)
theorem WlS.asAddr (v:Value):WlS (Go.asAddr v):=by
  unfold Go.asAddr
  split
  · exact .pure _
  · exact .dead _ DeadS.nilDeref
  · exact .dead _ (.halt _)
theorem WlS.sliceBounds (b:Bool) (len cap:Nat) (lo hi mx:Option Value):WlS (Instr.sliceBounds b len cap lo hi mx):=by
  unfold Instr.sliceBounds
  dsimp only
  repeat' (first | exact WlS.pure _ | exact WlS.dead _ (.halt _) | exact WlS.sliceBound _ _ _ | refine WlS.bind ?_ fun _=>?_ | split)
theorem WlS.slice (t:TypeId) (x:Value) (lo hi mx:Option Value):WlS (Instr.slice t x lo hi mx):=by
  unfold Instr.slice
  dsimp only
  repeat' (first | exact WlS.pure _ | exact WlS.dead _ (.halt _) | exact WlS.sliceBounds _ _ _ _ _ _ | exact WlS.underlying _ | exact WlS.sizeOf _ | exact WlS.asAddr _ | refine WlS.bind ?_ fun _=>?_ | split)
theorem WlS.sliceAt (t:TypeId) (x:Value) (lo hi mx:Option Value):WlS (Instr.sliceAt t x lo hi mx):=by
  unfold Instr.sliceAt
  dsimp only
  repeat' (first | exact WlS.pure _ | exact WlS.dead _ (.halt _) | exact WlS.slice _ _ _ _ _ | exact WlS.sliceBounds _ _ _ _ _ _ | exact WlS.underlying _ | exact WlS.sizeOf _ | exact WlS.sureAddr _ | refine WlS.bind ?_ fun _=>?_ | split)
theorem WlS.indexAt (t:TypeId) (x i:Value):WlS (Instr.indexAt t x i):=by
  unfold Instr.indexAt
  dsimp only
  repeat' (first | exact WlS.pure _ | exact WlS.dead _ (.halt _) | exact WlS.dead _ (DeadS.boundsPanic _ _ _ _) | exact WlS.asIntOf _ | exact WlS.underlying _ | exact WlS.sizeOf _ | exact WlS.sureAddr _ | refine WlS.bind ?_ fun _=>?_ | split)
def wlB:Op → Bool
  | .slice _ _ _ _ _=>true
  | .indexAddr _ _ _=>true
  | _=>false
theorem wlV {P:Program} {m:Sem Value} (h:WlS m) {w w1:World} {n:Next} (hr:(m >>= fun v=>(Pure.pure (Next.value v):Sem Next)).run P w = .ok n w1):w1 = w ∧ (∃ v,n = .value v) ∧ ∀ w',(m >>= fun v=>(Pure.pure (Next.value v):Sem Next)).run P w' = .ok n w':=by
  have hw:=WlS.bind h (f:=fun v=>(Pure.pure (Next.value v):Sem Next)) fun v=>.pure _
  refine ⟨(hw.run P w w n w1 hr).1,?_,fun w'=>(hw.run P w w' n w1 hr).2⟩
  rw [Sem.run_bind] at hr
  cases hq:m.run P w with
  | ok v w2 =>
    rw [hq] at hr
    exact ⟨v,by
      have:(Result.ok (Next.value v) w2:Result Next) = .ok n w1:=hr
      injection this with h1 _;exact h1.symm⟩
  | halt x w2=>rw [hq] at hr;cases hr
theorem wl_run {P:Program} {o:Oper} {ρ:Operand → Value} (h:wlB o.op = true) {w w1:World} {n:Next} (hr:(execOp ρ o).run P w = .ok n w1):w1 = w ∧ (∃ v,n = .value v) ∧ ∀ w',(execOp ρ o).run P w' = .ok n w':=by
  unfold execOp at hr ⊢
  cases hop:o.op <;> rw [hop] at h <;> first | (exfalso;simp [wlB] at h;done) | skip
  all_goals
    rw [hop] at hr
    simp only at hr ⊢
  · exact wlV (WlS.sliceAt _ _ _ _ _) hr
  · exact wlV (WlS.indexAt _ _ _) hr
section
variable {ds:List Deferred} {N:Nat} {a:Act} {l0 l1:List (Nat × Value)} {w:World} {P:Program} {l:List Oper} {Q:Exit → Act → World → Prop} {o:Oper} {m k i:Nat} {D:List Nat}
end
end Go.Proofs.YtjinaepmpoclaaaGreatDoor
namespace Go.Proofs.YtjinaepmpoclaaaGreatDoor
open Go.RowKit
section
variable {w0 w w' A B:World} {L L' LO P Q:List (Option Nat)} {K:Nat → Prop} {n b d i:Nat} {kd:IntKind} {v v':Value} {o:Option Nat} {xs:List Int}
end
structure SetTy (P:Program) (T Tm Tk Tv:TypeId) (kd:IntKind):Prop where
  st:∃ fs f,P.underlying T = some (.struct fs) ∧ fs.toList = [f] ∧ f.type = Tm ∧ f.offset = 0
  inf:∃ i,P.info? T = some i ∧ i.size = 1 ∧ ∃ cs,i.zero = some (.agg cs) ∧ cs.toList = [.map none]
  infm:∃ i,P.info? Tm = some i ∧ i.size = 1
  mp:P.underlying Tm = some (.map Tk Tv)
  key:P.underlying Tk = some (.int kd)
  inv:∃ i,P.info? Tv = some i ∧ i.zero = some (.bool false)
section
variable {ds:List Deferred} {N:Nat} {a:Act} {l:List (Nat × Value)} {w w0:World} {P:Program} {ops:Array Oper} {Q:Exit → Act → World → Prop} {rest:List Oper} {o:Oper} {Kont:Act → World → Prop} {d:Nat} {T Tm Tk Tv:TypeId} {kd:IntKind}
end
end Go.Proofs.YtjinaepmpoclaaaGreatDoor
namespace Go.Proofs.YtjinaepmpoclaaaGreatDoor
open Go.RowKit Go.ChangeShapes
abbrev Kw (K:Nat → Prop) (w:World) (L:List (Option Nat)):Nat → Prop:=Kx K w.heap.size L
abbrev TB:Type:=Int × Int × Sl Int × Int
section
variable {dd:List Deferred} {N:Nat} {a:Act} {l:List (Nat × Value)} {w w0:World} {P:Program} {ops:Array Oper} {Q:Exit → Act → World → Prop} {rest:List Oper} {o:Oper} {Kont:Act → World → Prop} {d:Nat} {K:Nat → Prop} {n:Nat} {L:List (Option Nat)}
theorem StD.pt (S:StD dd N a l) (d:Nat) (v:Value) (h:Nat.blt d N = true):StD dd N (a.put (some d) v) ((d,v) :: l):=S.put (by simpa using h) v
theorem RPost.o1 {tys:List (TypeId × GT)} (ht:tysOk P tys = true) {R:World → World → Prop} {f:Value → World → Prop} {A a0:Act} {l0:List (Nat × Value)} {v:Value} (S:StD dd N A l) (S0:StD dd N a0 l0) (hd:o.dst = some d) (h:(a_h tys ops N [o] l).bind (fun q=>lk q d) = some v) (hf:f v w) (hb:R w w:=by exact Below.refl _ _) :
    FillE w [] A (fun B=>wpList P ops (a_0 R o.dst f a0.defers w Q) [o] B w):=RPost.one S tys ht hd h S0.defers hf hb
end
end Go.Proofs.YtjinaepmpoclaaaGreatDoor
namespace Go.Proofs.YtjinaepmpoclaaaGreatDoor
open Go.RowKit Go.ChangeShapes
section
variable {dd:List Deferred} {N:Nat} {a:Act} {l:List (Nat × Value)} {w w0:World} {P:Program} {ops:Array Oper} {Q:Exit → Act → World → Prop} {rest:List Oper} {o:Oper} {Kont:Act → World → Prop} {d:Nat} {K:Nat → Prop}
end
end Go.Proofs.YtjinaepmpoclaaaGreatDoor
namespace Go.Proofs.YtjinaepmpoclaaaGreatDoor
open Go.RowKit
section
variable {w0 w w' A B:World} {L L' LO P Q:List (Option Nat)} {K:Nat → Prop} {n b d i:Nat} {φ:Obj → Prop} {v v':Value} {o:Option Nat}
end
structure MapTy (P:Program) (Tm Tk Tv:TypeId) (kd:IntKind):Prop where
  mp:P.underlying Tm = some (.map Tk Tv)
  key:P.underlying Tk = some (.int kd)
section
variable {ds:List Deferred} {N:Nat} {a:Act} {l:List (Nat × Value)} {w w0:World} {P:Program} {ops:Array Oper} {Q:Exit → Act → World → Prop} {rest:List Oper} {o:Oper} {Kont:Act → World → Prop} {d:Nat} {Tm Tk Tv:TypeId} {kd:IntKind}
end
section
variable {ds:List Deferred} {N:Nat} {a:Act} {l:List (Nat × Value)} {w w0:World} {P:Program} {ops:Array Oper} {Q:Exit → Act → World → Prop} {rest:List Oper} {o:Oper} {Kont:Act → World → Prop} {d:Nat} {K:Nat → Prop} {L:List (Option Nat)}
theorem RepAt.sl {m:Nat} {e:GT} {p:Addr} {xs:List (PT e)} (R:RepAt (.arr m e) w K p xs) (hb:p.block < w.heap.size) (hK:K p.block) (hm:m ≤ 9223372036854775807):RepV (.sl e) w K (.slice (some p) m m) (⟨xs,some m⟩:Sl (PT e)):=by
  obtain ⟨h0,cs,⟨hx,css,rfl,hl,hr⟩,hc⟩:=R
  obtain ⟨b,off,sp⟩:=p
  have h0:sp = .none:=h0
  subst h0
  have key:∀ (css:List (List Value)) (ys:List (PT e)),css.length = ys.length → (∀ (j:Nat) c y,css[j]? = some c → ys[j]? = some y → RepCs e w K c y) → ∀ (j:Nat) (c:List Value),css[j]? = some c → ∀ (i:Nat) (v:Value),c[i]? = some v → css.flatten[j * e.sz + i]? = some v:=by
    intro css
    induction css with
    | nil=>intro ys _ _ j c hj;simp at hj
    | cons c0 css ih =>
      intro ys hly hh j c hj i v hi
      match ys,hly with
      | y0 :: ys,hly =>
        have hlen:c0.length = e.sz:=RepCs.len (hh 0 c0 y0 rfl rfl)
        have hi':i < c.length:=by rcases Nat.lt_or_ge i c.length with h | h;exact h;rw [List.getElem?_eq_none h] at hi;cases hi
        cases j with
        | zero =>
          obtain rfl:c0 = c:=by simpa using hj
          rw [List.flatten_cons,Nat.zero_mul,Nat.zero_add,List.getElem?_append_left hi',hi]
        | succ j =>
          have hj':css[j]? = some c:=by simpa using hj
          have:=ih ys (by simpa using hly) (fun j c y h1 h2=>hh (j + 1) c y (by simpa using h1) (by simpa using h2)) j c hj' i v hi
          rw [List.flatten_cons,List.getElem?_append_right (by rw [hlen,Nat.add_mul];omega),hlen,← this]
          congr 1
          rw [Nat.add_mul];omega
  refine ⟨[_],⟨_,_,_,rfl,hx,Nat.le_refl _,hm,fun k hk=>by simpa using hk,?_⟩,rfl⟩
  refine .inr ⟨b,off,rfl,hb,hK,fun j x hj=>?_⟩
  have hjl:j < css.length:=by
    rcases Nat.lt_or_ge j xs.length with h | h
    · omega
    · rw [List.getElem?_eq_none h] at hj;cases hj
  have hcj:=List.getElem?_eq_getElem hjl
  have hR:=hr j _ x hcj hj
  refine ⟨css[j],hR,hR.len,fun i v hv=>?_⟩
  have:=hc (j * e.sz + i) v (key css xs (by omega) hr j _ hcj i v hv)
  rw [← this]
  congr 1
  show (⟨b,off + j * e.sz + i,.none⟩:Addr) = ⟨b,off + (j * e.sz + i),.none⟩
  rw [Nat.add_assoc]
theorem d_q (S:StD ds N a l) {T:TypeId} {x:Operand} {m:Nat} {e:GT} {p:Addr} {xs:List (PT e)} (ho:o.op = .slice T x .none .none .none) (ht:tiQ P (.arr m e) false T [] 0 = true) (hd:o.dst = some d) (hN:Nat.blt d N = true)
    (hx:ev l x = some (.pointer (some p))) (R:RepAt (.arr m e) w K p xs) (hb:p.block < w.heap.size) (hK:K p.block) (hm:m ≤ 9223372036854775807)
    (k:∀ a' v,RepV (.sl e) w K v (⟨xs,some m⟩:Sl (PT e)) → StD ds N a' ((d,v) :: l) → Kont a' w):o.wp P a w Kont Q:=by
  obtain ⟨E,hE,htE⟩:=b_s ht
  obtain ⟨ie,hie,hse⟩:=a_u htE
  refine a_s S (v:=.slice (some p) m m) hd hN ?_ fun a'=>k a' _ (R.sl hb hK hm)
  have hp:p.add 0 = p:=by cases p;rfl
  by_cases h0:m = 0
  · subst h0;simp [execOp,ho,S.eval hx,Instr.sliceAt,Instr.sliceBounds,run_underlying hE,sizeOf,typeInfo,hie,hse,Instr.sureAddr]
  · simp [execOp,ho,S.eval hx,Instr.sliceAt,Instr.sliceBounds,run_underlying hE,sizeOf,typeInfo,hie,hse,Instr.sureAddr]
    exact fun _=>hp
theorem Pr.kk {t:GT} {p:Addr} {x:PT t} (h:Pr t w0 K p x) (W:Wd w0 w L):Kx K w0.heap.size L p.block:=⟨.inl h.2.2,fun hm=>by have:=(W.own _ hm).1;have:=h.2.1;omega⟩
theorem Pr.lt' {t:GT} {p:Addr} {x:PT t} (h:Pr t w0 K p x) (W:Wd w0 w L):p.block < w.heap.size:=by have:=W.below.size;have:=h.2.1;omega
theorem Pr.br' {t:GT} {p:Addr} {x:PT t} (h:Pr t w K p x):Br t w K p x:=⟨h.1,h.2.1⟩
end
namespace R
section
variable {r:Option Nat} {P:Program} {Q:Exit → Act → World → Prop} {a:Act} {w:World}
end
end R
end Go.Proofs.YtjinaepmpoclaaaGreatDoor
namespace Go.Proofs.YtjinaepmpoclaaaGreatDoor
open Go.RowKit Go.ChangeShapes
section
variable {P:Program}
end
section
variable {ds:List Deferred} {N:Nat} {a:Act} {l:List (Nat × Value)} {w w0:World} {P:Program} {ops:Array Oper} {Q:Exit → Act → World → Prop} {rest:List Oper} {o:Oper} {Kont:Act → World → Prop} {d:Nat} {K:Nat → Prop} {L:List (Option Nat)}
end
section
variable {w0 w w':World} {L P:List (Option Nat)} {K:Nat → Prop} {n b:Nat} {t:GT} {v:Value} {T:TypeId} {x:PT t}
theorem Pr.again {p:Addr} (h:Pr t w0 K p x) (W:Wd w0 w L):Pr t w (Kx K w0.heap.size L) p x:=⟨Br.now h.br' W,h.lt' W,h.kk W⟩
end
def b_p (i:Nat) (o:Oper):Oper:={ o with after:=o.after.push ⟨i,.data⟩ }
def c_5:Op → Bool
  | .extract _ _=>true
  | .move _=>true
  | .assign _=>true
  | _=>false
def depL (l:List Oper) (i:Nat):Array Bool:=((List.range l.length).map fun k=>match l[i]? with
  | some o=>o.after.any fun e=>Region.binds .any e && Nat.beq e.on k
  | none=>false).toArray
def edgeB (l:List Oper) (i j:Nat):Bool :=
  Nat.blt i l.length && Nat.blt j l.length && (!Nat.beq i j) && Region.free .any l.toArray (depL l i) i && Region.noSelect l.toArray &&
  match l[i]?,l[j]? with
  | some oi,some oj=>c_5 oi.op && oi.after.all fun e=>!Region.binds .any e || oj.after.any fun e'=>Region.binds .any e' && Nat.beq e'.on e.on
  | _,_=>false
section
variable {P:Program} {Q:Exit → Act → World → Prop} {l:List Oper} {i j k:Nat} {a:Act} {w:World} {K:Act → World → Prop} {listed:Array Bool}
theorem c_L:(l.modify j (b_p i)).toArray[k]? = (l.toArray[k]?).map fun o=>if j = k then b_p i o else o:=by
  simp only [List.getElem?_toArray,List.getElem?_modify]
  by_cases h:j = k <;> simp [h]
theorem c_6 (tmps:Array Value):yielded (l.modify j (b_p i)).toArray tmps = yielded l.toArray tmps:=by
  funext k
  unfold yielded
  rw [c_L]
  cases l.toArray[k]? with
  | none=>rfl
  | some o=>by_cases h:j = k <;> simp [h,b_p]
theorem c_m:wpOp P (l.modify j (b_p i)).toArray Q k K a w = wpOp P l.toArray Q k K a w:=by
  unfold wpOp
  rw [c_L,c_6]
  cases l.toArray[k]? with
  | none=>rfl
  | some o=>by_cases h:j = k <;> simp only [h,if_true,if_false,Option.map_some] <;> rfl
theorem ready_addOn:k ∈ Region.ready .any (l.modify j (b_p i)).toArray listed ↔ k ∈ Region.ready .any l.toArray listed ∧ (k = j → listed.getD i false = true):=by
  rw [mem_ready,mem_ready,c_L]
  constructor
  · rintro ⟨h1,o,ho,h2⟩
    obtain ⟨o',ho',rfl⟩:=Option.map_eq_some_iff.1 ho
    by_cases h:j = k
    · rw [if_pos h] at h2
      refine ⟨⟨h1,o',ho',fun e he hb=>h2 e (by simp [b_p,he]) hb⟩,fun _=>h2 ⟨i,.data⟩ (by simp [b_p]) rfl⟩
    · rw [if_neg h] at h2
      exact ⟨⟨h1,o',ho',h2⟩,fun e=>absurd e.symm h⟩
  · rintro ⟨⟨h1,o,ho,h2⟩,h3⟩
    refine ⟨h1,if j = k then b_p i o else o,by rw [ho];rfl,fun e he hb=>?_⟩
    by_cases h:j = k
    · rw [if_pos h] at he
      simp only [b_p,Array.mem_push] at he
      rcases he with he | rfl
      · exact h2 e he hb
      · exact h3 h.symm
    · rw [if_neg h] at he
      exact h2 e he hb
theorem getD_keep (h:listed.getD i false = true) (k:Nat):(listed.setIfInBounds k true).getD i false = true:=by
  simp only [Array.getD_eq_getD_getElem?,Array.getElem?_setIfInBounds] at h ⊢
  by_cases hk:k = i
  · subst hk
    rcases Nat.lt_or_ge k listed.size with h' | h'
    · simp [h']
    · rw [Array.getElem?_eq_none h'] at h;cases h
  · rw [if_neg hk];exact h
theorem c_n:∀ (fuel:Nat) (listed:Array Bool) (a:Act) (w:World),listed.getD i false = true → wpAny P .any (l.modify j (b_p i)).toArray Q fuel listed a w → wpAny P .any l.toArray Q fuel listed a w
  | 0,listed,a,w,hi,h=>by
    refine ⟨?_,h.2⟩
    cases hr:Region.ready .any l.toArray listed with
    | nil=>rfl
    | cons k ks =>
      have:k ∈ Region.ready .any (l.modify j (b_p i)).toArray listed:=ready_addOn.2 ⟨by rw [hr];simp,fun _=>hi⟩
      rw [h.1] at this;cases this
  | fuel + 1,listed,a,w,hi,h=>by
    refine ⟨fun hr=>h.1 ?_,fun k hk=>?_⟩
    · cases hr':Region.ready .any (l.modify j (b_p i)).toArray listed with
      | nil=>rfl
      | cons k ks =>
        have:=(ready_addOn.1 (show k ∈ Region.ready .any (l.modify j (b_p i)).toArray listed by rw [hr'];simp)).1
        rw [hr] at this;cases this
    · have:=h.2 k (ready_addOn.2 ⟨hk,fun _=>hi⟩)
      rw [c_m] at this
      exact wpOp_mono (fun a' w' h'=>c_n fuel _ a' w' (getD_keep hi k) h') this
theorem c_g {e:Event} (h:e ∈ (#[]:Array Event)):False:=by simp at h
theorem quiet_run {o:Oper} {ops:Array Oper} (hq:c_5 o.op = true) (hi:ops[i]? = some o) (h:wpOp P ops Q i K a w):∃ v,Yields P ops o v a ∧ K (a.put o.dst v) w:=by
  unfold wpOp at h
  rw [hi] at h
  simp only at h
  by_cases hw:Region.wanted o (yielded ops a.tmps) = true
  · rw [if_pos hw] at h
    have key:(∃ v,∀ w,(execOp a.eval o).run P w = .ok (.value v) w) ∨ ((∀ next,¬ o.upon P a next Q ((execOp a.eval o).run P w))):=by
      cases ho:o.op <;> rw [ho] at hq <;> try (simp [c_5] at hq)
      · exact .inl ⟨_,fun w=>by simp [execOp,ho];rfl⟩
      · exact .inl ⟨_,fun w=>by simp [execOp,ho];rfl⟩
      · rename_i x n
        cases hx:a.eval x with
        | tuple vs =>
          cases hv:vs[n]? with
          | some v=>exact .inl ⟨v,fun w=>by simp [execOp,ho,hx,Instr.extract,hv]⟩
          | none=>exact .inr fun next=>by simp [execOp,ho,hx,Instr.extract,hv,stuck,Oper.upon]
        | _=>exact .inr fun next=>by simp [execOp,ho,hx,Instr.extract,stuck,Oper.upon]
    have hasks:¬ o.asks P a w:=by
      intro ⟨h1,_⟩
      cases ho:o.op <;> rw [ho] at hq <;> try (simp [c_5] at hq)
      · simp [execOp,ho] at h1
        exact c_g h1
      · simp [execOp,ho] at h1
        exact c_g h1
      · rename_i x n
        cases hx:a.eval x with
        | tuple vs =>
          cases hv:vs[n]? with
          | some v=>simp [execOp,ho,hx,Instr.extract,hv] at h1;exact c_g h1
          | none=>simp [execOp,ho,hx,Instr.extract,hv,stuck] at h1;exact c_g h1
        | _=>simp [execOp,ho,hx,Instr.extract,stuck] at h1;exact c_g h1
    rcases h with h | ⟨h,_⟩
    · rcases key with ⟨v,hv⟩ | hn
      · refine ⟨v,.inl ⟨hw,hv⟩,?_⟩
        unfold Oper.wp at h
        rw [hv] at h
        exact h
      · exact absurd h (hn _)
    · exact absurd h hasks
  · rw [if_neg hw] at h
    exact ⟨undef,.inr ⟨by simpa using hw,rfl⟩,h⟩
theorem any_addOn (hc:edgeB l i j = true) (hQ:∀ c d v a w,Q (.panic c) (a.put d v) w → Q (.panic c) a w):∀ (fuel:Nat) (listed:Array Bool) (a:Act) (w:World),listed.size = l.length → wpAny P .any (l.modify j (b_p i)).toArray Q fuel listed a w → wpAny P .any l.toArray Q fuel listed a w:=by
  unfold edgeB at hc
  simp only [Bool.and_eq_true,Bool.not_eq_true',Nat.blt_eq] at hc
  obtain ⟨⟨⟨⟨⟨hi,hj⟩,hij⟩,hfr⟩,hsel⟩,hc⟩:=hc
  have hne:i ≠ j:=fun e=>by rw [e,Nat.beq_refl] at hij;cases hij
  have hoi:l.toArray[i]? = some l[i]:=by simp [hi]
  have hoj:l.toArray[j]? = some l[j]:=by simp [hj]
  rw [List.getElem?_eq_getElem hi,List.getElem?_eq_getElem hj] at hc
  simp only [Bool.and_eq_true] at hc
  obtain ⟨hq,hdep⟩:=hc
  have hsub:∀ {listed:Array Bool},listed.getD i true = false → j ∈ Region.ready .any l.toArray listed → i ∈ Region.ready .any (l.modify j (b_p i)).toArray listed:=by
    intro listed hiu hjr
    refine ready_addOn.2 ⟨mem_ready.2 ⟨hiu,_,hoi,fun e he hb=>?_⟩,fun e=>absurd e hne⟩
    obtain ⟨_,oj,hoj',h2⟩:=mem_ready.1 hjr
    rw [hoj] at hoj'
    obtain rfl:=Option.some.inj hoj'
    have:=Array.all_eq_true'.1 hdep e he
    rw [hb] at this
    simp only [Bool.not_true,Bool.false_or] at this
    obtain ⟨e',he',h3⟩:=Array.any_eq_true'.1 this
    simp only [Bool.and_eq_true,Nat.beq_eq] at h3
    have:=h2 e' he' h3.1
    rw [h3.2] at this
    exact this
  intro fuel
  induction fuel with
  | zero =>
    intro listed a w hs h
    refine ⟨?_,h.2⟩
    cases hr:Region.ready .any l.toArray listed with
    | nil=>rfl
    | cons k ks =>
      have hk:k ∈ Region.ready .any l.toArray listed:=by rw [hr];simp
      by_cases hin:listed.getD i false = true
      · have:k ∈ Region.ready .any (l.modify j (b_p i)).toArray listed:=ready_addOn.2 ⟨hk,fun _=>hin⟩
        rw [h.1] at this;cases this
      · by_cases hkj:k = j
        · subst hkj
          have:i ∈ Region.ready .any (l.modify k (b_p i)).toArray listed:=hsub (by
            rw [Array.getD_eq_getD_getElem?] at hin ⊢
            rw [Array.getElem?_eq_getElem (by omega)] at hin ⊢
            simpa using hin) hk
          rw [h.1] at this;cases this
        · have:k ∈ Region.ready .any (l.modify j (b_p i)).toArray listed:=ready_addOn.2 ⟨hk,fun e=>absurd e hkj⟩
          rw [h.1] at this;cases this
  | succ fuel ih =>
    intro listed a w hs h
    by_cases hin:listed.getD i false = true
    · exact c_n _ _ _ _ hin h
    · have hiu:listed.getD i true = false:=by
        rw [Array.getD_eq_getD_getElem?] at hin ⊢
        rw [Array.getElem?_eq_getElem (by omega)] at hin ⊢
        simpa using hin
      by_cases hjr:j ∈ Region.ready .any l.toArray listed
      · have hir:=hsub hiu hjr
        have h1:=h.2 i hir
        rw [c_m] at h1
        obtain ⟨v,hy,h2⟩:=quiet_run hq hoi h1
        refine wpAny_first hoi (Region.noSelect_spec hsel) (fun c a w=>hQ c _ v a w) fuel listed a w (fun k ok hk hki hun hno=>?_) (ready_addOn.1 hir).1 hy (c_n _ _ _ _ ?_ h2)
        · refine Region.free_spec hoi hfr k ok hk hki ?_ hno
          have hkl:k < l.length:=by
            rcases Nat.lt_or_ge k l.length with h | h
            · exact h
            · rw [Array.getElem?_eq_none (by simpa using h)] at hk;cases hk
          have hd:(depL l i)[k]? = some false:=by
            unfold depL
            rw [List.getElem?_eq_getElem hi]
            simp only [List.getElem?_toArray,List.getElem?_map,List.getElem?_range hkl,Option.map_some,Option.some.injEq]
            cases hany:l[i].after.any (fun e=>Region.binds .any e && Nat.beq e.on k) with
            | false=>rfl
            | true =>
              obtain ⟨e,he,hb⟩:=Array.any_eq_true'.1 hany
              simp only [Bool.and_eq_true,Nat.beq_eq] at hb
              obtain ⟨_,o',ho',h3⟩:=mem_ready.1 (ready_addOn.1 hir).1
              rw [hoi] at ho'
              obtain rfl:=Option.some.inj ho'
              have h4:=h3 e he hb.1
              rw [hb.2] at h4
              rw [Array.getD_eq_getD_getElem?] at h4 hun
              rw [Array.getElem?_eq_getElem (by omega)] at h4 hun
              rw [Option.getD_some] at h4 hun
              rw [h4] at hun;cases hun
          rw [Array.getD_eq_getD_getElem?,hd];rfl
        · simp [Array.getD_eq_getD_getElem?,hs,hi]
      · refine ⟨fun hr=>h.1 ?_,fun k hk=>?_⟩
        · cases hr':Region.ready .any (l.modify j (b_p i)).toArray listed with
          | nil=>rfl
          | cons k ks =>
            have:=(ready_addOn.1 (show k ∈ Region.ready .any (l.modify j (b_p i)).toArray listed by rw [hr'];simp)).1
            rw [hr] at this;cases this
        · have hkj:k ≠ j:=fun e=>hjr (e ▸ hk)
          have:=h.2 k (ready_addOn.2 ⟨hk,fun e=>absurd e hkj⟩)
          rw [c_m] at this
          exact wpOp_mono (fun a' w' h'=>ih _ a' w' (by simp [hs]) h') this
theorem wany_edge (i j:Nat) (hc:edgeB l i j = true) (hQ:PanicOk Q) (h:WAny P (l.modify j (b_p i)) Q a w):WAny P l Q a w:=by
  unfold WAny at h ⊢
  have:=any_addOn hc (fun c d v a w h=>hQ.put c d v a w h) _ _ _ _ (by simp) h
  simpa using this
end
end Go.Proofs.YtjinaepmpoclaaaGreatDoor
namespace Go.Proofs.YtjinaepmpoclaaaGreatDoor
open Go.RowKit
def AnH (P:Program) (l:List Oper) (Q:Exit → Act → World → Prop) (m:Nat) (S0:World → Prop) (k:Nat) (D:List Nat) (a:Act) (w:World):Prop:=wpAnyH P .any l.toArray Q S0 k (a_r m D) a w
def c_7 (P:Program) (l:List Oper) (Q:Exit → Act → World → Prop) (m:Nat) (S0:World → Prop) (k:Nat) (D:List Nat) (a:Act) (w:World) (i:Nat):Prop:=wpOp P l.toArray Q i (fun a' w'=>S0 w' ∧ AnH P l Q m S0 k (i :: D) a' w') a w
def AnForksH (P:Program) (l:List Oper) (Q:Exit → Act → World → Prop) (m:Nat) (S0:World → Prop) (k:Nat) (D:List Nat) (a:Act) (w:World):List Nat → Prop
  | []=>True
  | i :: is=>c_7 P l Q m S0 k D a w i ∧ AnForksH P l Q m S0 k D a w is
theorem AnForksH.get {P:Program} {l:List Oper} {Q:Exit → Act → World → Prop} {m k:Nat} {S0:World → Prop} {D:List Nat} {a:Act} {w:World}:∀ {is:List Nat},AnForksH P l Q m S0 k D a w is → ∀ i ∈ is,c_7 P l Q m S0 k D a w i
  | j :: is,h,i,hi=>by
    rcases List.mem_cons.1 hi with rfl | hi
    · exact h.1
    · exact AnForksH.get h.2 i hi
section
variable {P:Program} {w W:World} {K:Nat → Prop}
theorem c_o {T:TypeId} {t:GT} {p:Addr} {x:PT t} {cs:List Value} (ht:tiQ P t false T [] 0 = true) (hs:p.spot = none) (h1:RepCs t W K cs x) (h2:∀ (i:Nat) (v:Value),cs[i]? = some v → w.cell? ⟨p.block,p.off + i,none⟩ = some v) :
    (loadVar T p).run P w = .ok (if t.agg then .agg cs.toArray else cs.headD undef) w:=by
  obtain ⟨b,off,spot⟩:=p
  obtain rfl:spot = .none:=hs
  obtain ⟨i,hi,hsz⟩:=a_u ht
  have hl:=h1.len
  have hload:(loadCells ⟨b,off,.none⟩ i.size).run P w = .ok cs.toArray w:=by
    rw [hsz,← hl]
    exact run_loadCells_list (P:=P) w ⟨b,off,.none⟩ cs (fun j v hv=>by rw [Addr.add_lit];exact h2 j v hv)
  have one:t.agg = false → (∀ d,P.underlying T = some d → (match d with | .struct _ | .array _ _=>true | _=>false) = false) → P.underlying T ≠ .none → t.sz = 1 → (loadVar T ⟨b,off,.none⟩).run P w = .ok (if t.agg then .agg cs.toArray else cs.headD undef) w:=by
    intro hagg hd hne h1z
    rw [h1z] at hl
    match cs,hl with
    | [c],_ =>
      have hc:=h2 0 c rfl
      cases hu:P.underlying T with
      | none=>exact absurd hu hne
      | some d =>
        have:=hd d hu
        rw [if_neg (by simp [hagg])]
        have hc':w.cell? ⟨b,off,.none⟩ = some c:=hc
        cases d <;> simp at this <;> simp [loadVar,isAgg,run_underlying hu,hc']
  cases t with
  | int k=>exact one rfl (fun d hd=>by rw [a_Q ht] at hd;cases hd;rfl) (by rw [a_Q ht];simp) rfl
  | bool=>exact one rfl (fun d hd=>by rw [a_Y ht] at hd;cases hd;rfl) (by rw [a_Y ht];simp) rfl
  | str=>exact one rfl (fun d hd=>by rw [a_R ht] at hd;cases hd;rfl) (by rw [a_R ht];simp) rfl
  | sl e=>obtain ⟨E,hE,_⟩:=a_V ht;exact one rfl (fun d hd=>by rw [hE] at hd;cases hd;rfl) (by rw [hE];simp) rfl
  | raw=>obtain ⟨d0,hE,hd0⟩:=d_x ht;exact one rfl (fun d hd=>by rw [hE] at hd;cases hd;exact hd0) (by rw [hE];simp) rfl
  | pair a b=>simp [tiQ] at ht
  | st f =>
    obtain ⟨fs,hfs,_⟩:=b_9 ht
    rw [if_pos rfl]
    simp [loadVar,isAgg,run_underlying hfs,sizeOf,typeInfo,hi,hload]
  | arr m e =>
    obtain ⟨E,hE,_⟩:=b_s ht
    rw [if_pos rfl]
    simp [loadVar,isAgg,run_underlying hE,sizeOf,typeInfo,hi,hload]
end
section
variable {ds:List Deferred} {N:Nat} {a:Act} {l0 l1:List (Nat × Value)} {w:World} {S0:World → Prop} {P:Program} {l:List Oper} {Q:Exit → Act → World → Prop} {o:Oper} {m k i:Nat} {D:List Nat}
namespace R
end R
theorem anh_end (hr:Region.ready .any l.toArray (a_r m D) = []) (h:Q .normal a w):AnH P l Q m S0 k D a w:=wpAnyH_done hr h k
theorem d_T {is:List Nat} (hr:Region.ready .any l.toArray (a_r m D) = is) (hne:is.isEmpty = false) (h:AnForksH P l Q m S0 k D a w is):AnH P l Q m S0 (k + 1) D a w:=by
  unfold AnH
  refine ⟨fun he=>?_,fun i hi=>?_⟩
  · rw [hr] at he;subst he;cases hne
  · rw [hr] at hi
    exact h.get i hi
theorem c_8 (ho:l[i]? = some o) (S:StD ds N a l0) (hg:gOk l.toArray l0 o = some true) (h:o.wp P a w (fun a' w'=>S0 w' ∧ AnH P l Q m S0 k (i :: D) a' w') Q):c_7 P l Q m S0 k D a w i:=by
  unfold c_7 wpOp
  have ho':l.toArray[i]? = some o:=by simpa using ho
  simp only [ho']
  rw [if_pos (gOk.wanted S hg)]
  exact .inl h
theorem c_M (hr:Region.ready .any l.toArray (a_r m D) = [i]) (ho:l[i]? = some o) (S:StD ds N a l0) (hg:gOk l.toArray l0 o = some true) (h:o.wp P a w (fun a' w'=>S0 w' ∧ AnH P l Q m S0 k (i :: D) a' w') Q):AnH P l Q m S0 (k + 1) D a w :=
  d_T hr rfl ⟨c_8 ho S hg h,trivial⟩
theorem c_h (tys:List (TypeId × GT)) (ht:tysOk P tys = true) (hs:Region.noSelect l.toArray = true) (hQ:PanicOk Q) (hS:S0 w):∀ (is:List Nat) {D:List Nat} {a:Act} {l0:List (Nat × Value)},StD ds N a l0 → a_Z l m D is = true → a_h tys l.toArray N (is.filterMap (l[·]?)) l0 = some l1 → (∀ a',StD ds N a' l1 → AnH P l Q m S0 k (is.reverse ++ D) a' w) → AnH P l Q m S0 (k + is.length) D a w
  | [],D,a,l0,S,_,hp,h=>by
    simp only [List.filterMap_nil,a_h,Option.some.injEq] at hp
    subst hp
    exact h a S
  | i :: is,D,a,l0,S,hc,hp,h=>by
    simp only [a_Z,Bool.and_eq_true] at hc
    obtain ⟨⟨hf,hr⟩,hc⟩:=hc
    have hi:i ∈ Region.ready .any l.toArray (a_r m D):=by simpa using hr
    obtain ⟨_,o,ho,_⟩:=mem_ready.1 hi
    have ho':l[i]? = some o:=by simpa using ho
    rw [List.filterMap_cons_some ho'] at hp
    have h':∀ a',StD ds N a' l1 → AnH P l Q m S0 k (is.reverse ++ (i :: D)) a' w:=fun a' S'=>by
      have:=h a' S'
      simpa using this
    have fin:∀ (v:Value) (l2:List (Nat × Value)),Yields P l.toArray o v a → StD ds N (a.put o.dst v) l2 → a_h tys l.toArray N (is.filterMap (l[·]?)) l2 = some l1 → AnH P l Q m S0 (k + (is.length + 1)) D a w:=fun v l2 hy S2 hp2 =>
      wpAnyH_first ho (Region.noSelect_spec hs) (fun c a w=>hQ.put c o.dst v a w) (k + is.length) (a_r m D) a w (Region.free_spec ho hf) hi hy.yieldsIf hS (c_h tys ht hs hQ hS is S2 hc hp2 h')
    unfold a_h at hp
    split at hp
    · rename_i d hg hd
      split at hp
      · rename_i v hv
        split at hp
        · rename_i hN
          exact fin v _ (.inl ⟨gOk.wanted S hg,fun w=>c_B S o tys ht hv⟩) (by rw [hd];exact S.put (by simpa [Nat.blt_eq] using hN) v) hp
        · cases hp
      · cases hp
    · rename_i d hg hd
      split at hp
      · rename_i hN
        exact fin undef _ (.inr ⟨gOk.wanted S hg,rfl⟩) (by rw [hd];exact S.put (by simpa [Nat.blt_eq] using hN) undef) hp
      · cases hp
    · rename_i hg hd
      exact fin undef _ (.inr ⟨gOk.wanted S hg,rfl⟩) (by rw [hd];exact S) hp
    · cases hp
theorem anh_first (hs:Region.noSelect l.toArray = true) (hQ:PanicOk Q) (hS:S0 w) (hc:a_Z l m D [i] = true) (ho:l[i]? = some o) (hwl:wlB o.op = true) (S:StD ds N a l0) (hg:gOk l.toArray l0 o = some true)
    (h:o.wp P a w (fun a' w'=>w' = w → AnH P l Q m S0 k (i :: D) a' w') (fun _ _ _=>False)):AnH P l Q m S0 (k + 1) D a w:=by
  simp only [a_Z,Bool.and_eq_true] at hc
  obtain ⟨⟨hf,hr⟩,_⟩:=hc
  have hi:i ∈ Region.ready .any l.toArray (a_r m D):=by simpa using hr
  have ho':l.toArray[i]? = some o:=by simpa using ho
  unfold Oper.wp at h
  cases hrun:(execOp a.eval o).run P w with
  | halt x w' =>
    rw [hrun] at h
    cases x <;> simp only [Oper.upon] at h
  | ok n w' =>
    obtain ⟨rfl,⟨v,rfl⟩,hall⟩:=wl_run hwl hrun
    rw [hrun] at h
    simp only [Oper.upon] at h
    exact wpAnyH_first ho' (Region.noSelect_spec hs) (fun c a w=>hQ.put c o.dst v a w) k (a_r m D) a w' (Region.free_spec ho' hf) hi (.inl ⟨gOk.wanted S hg,fun w _=>hall w⟩) hS (h trivial)
end
end Go.Proofs.YtjinaepmpoclaaaGreatDoor
namespace Go.Proofs.YtjinaepmpoclaaaGreatDoor
open Go.RowKit Go.ChangeShapes
section
variable {ds:List Deferred} {N:Nat} {a:Act} {l:List (Nat × Value)} {w w0:World} {P:Program} {ops:Array Oper} {Q:Exit → Act → World → Prop} {rest:List Oper} {o:Oper} {Kont:Act → World → Prop} {d:Nat} {K:Nat → Prop} {L:List (Option Nat)}
end
end Go.Proofs.YtjinaepmpoclaaaGreatDoor
namespace Go.Proofs.YtjinaepmpoclaaaGreatDoor
open Go.RowKit Go.ChangeShapes
section
variable {ds:List Deferred} {N:Nat} {a:Act} {l:List (Nat × Value)} {w w0:World} {P:Program} {ops:Array Oper} {Q:Exit → Act → World → Prop} {rest:List Oper} {o:Oper} {Kont:Act → World → Prop} {d:Nat} {K:Nat → Prop} {n:Nat} {L:List (Option Nat)}
end
end Go.Proofs.YtjinaepmpoclaaaGreatDoor
namespace Go.Proofs.YtjinaepmpoclaaaGreatDoor
open Go.RowKit Go.ChangeShapes
namespace Ro
def valB:Op → Bool
  | .move _ | .assign _ | .pick _ _ _ | .load _ _ | .binOp _ _ _ _ _ | .unOp _ _ _ | .convert _ _ _ | .slice _ _ _ _ _ | .fieldAddr _ _ _ | .field _ _ _ | .indexAddr _ _ _ | .index _ _ _ | .extract _ _=>true
  | .call c=>match c.callee with
    | .builtin .len | .builtin .cap | .builtin .min | .builtin .max=>true
    | _=>false
  | _=>false
theorem vrun {P:Program} {m:Sem Value} {w w1:World} {n:Next} (hr:(m >>= fun v=>(Pure.pure (Next.value v):Sem Next)).run P w = .ok n w1):∃ v,n = .value v:=by
  rw [Sem.run_bind] at hr
  cases hq:m.run P w with
  | ok v w2 =>
    rw [hq] at hr
    exact ⟨v,by
      have:(Result.ok (Next.value v) w2:Result Next) = .ok n w1:=hr
      injection this with h1 _;exact h1.symm⟩
  | halt x w2=>rw [hq] at hr;cases hr
theorem val_run {P:Program} {o:Oper} {ρ:Operand → Value} (h:valB o.op = true) {w w1:World} {n:Next} (hr:(execOp ρ o).run P w = .ok n w1):∃ v,n = .value v:=by
  unfold execOp at hr
  cases hop:o.op <;> rw [hop] at h <;> first | (exfalso;simp [valB] at h;done) | skip
  case call c =>
    rw [hop] at hr
    simp only [valB] at h
    cases hc:c.callee <;> rw [hc] at h <;> first | (exfalso;simp at h;done) | skip
    rename_i b
    cases b <;> first | (exfalso;simp at h;done) | skip
    all_goals
      simp only [resolve,hc,pure_bind,invoke,builtin] at hr
      exact vrun hr
  case pick c x y =>
    rw [hop] at hr
    simp only at hr
    rw [Sem.run_bind] at hr
    cases hq:(asBool (ρ c)).run P w with
    | ok v w2 =>
      rw [hq] at hr
      have:(Result.ok (Next.value (if v then ρ x else ρ y)) w2:Result Next) = .ok n w1:=hr
      injection this with h1 _
      exact ⟨_,h1.symm⟩
    | halt x w2=>rw [hq] at hr;cases hr
  case move x =>
    rw [hop] at hr
    have:(Result.ok (Next.value (ρ x)) w:Result Next) = .ok n w1:=hr
    injection this with h1 _
    exact ⟨_,h1.symm⟩
  case assign x =>
    rw [hop] at hr
    have:(Result.ok (Next.value (ρ x)) w:Result Next) = .ok n w1:=hr
    injection this with h1 _
    exact ⟨_,h1.symm⟩
  all_goals
    rw [hop] at hr
    exact vrun hr
def RL (P:Program) (ops:Array Oper):List Oper → (Act → World → Prop) → World → Act → World → Prop
  | [],K,w0,a,w=>w = w0 ∧ K a w
  | o :: rest,K,w0,a,w=>w = w0 ∧ ((Region.wanted o (yielded ops a.tmps) = true ∧ o.wp P a w (RL P ops rest K w0) (fun _ _ _=>False)) ∨ (Region.wanted o (yielded ops a.tmps) = false ∧ RL P ops rest K w0 (a.put o.dst undef) w))
section
variable {ds:List Deferred} {N:Nat} {a:Act} {l0 l1:List (Nat × Value)} {w w0:World} {P:Program} {ops:Array Oper} {l:List Oper} {Q:Exit → Act → World → Prop} {o:Oper} {m k i:Nat} {D:List Nat} {K:Act → World → Prop} {rest:List Oper}
theorem RL.wld:∀ {l:List Oper},RL P ops l K w0 a w → w = w0
  | [],h=>h.1
  | _ :: _,h=>h.1
theorem wpList_nil (h:K a w):RL P ops [] K w a w:=⟨rfl,h⟩
theorem w_go (S:StD ds N a l0) (hg:gOk ops l0 o = some true) (h:o.wp P a w (RL P ops rest K w) (fun _ _ _=>False)):RL P ops (o :: rest) K w a w:=⟨rfl,.inl ⟨gOk.wanted S hg,h⟩⟩
theorem c_q (S:StD ds N a l0) (hg:gOk ops l0 o = some false) (h:RL P ops rest K w (a.put o.dst undef) w):RL P ops (o :: rest) K w a w:=⟨rfl,.inr ⟨gOk.wanted S hg,h⟩⟩
theorem a_T (tys:List (TypeId × GT)) (ht:tysOk P tys = true):∀ (l1:List Oper) {l2:List Oper} {a:Act} {l l':List (Nat × Value)},StD ds N a l → a_h tys ops N l1 l = some l' → (∀ a',StD ds N a' l' → RL P ops l2 K w a' w) → RL P ops (l1 ++ l2) K w a w
  | [],l2,a,l,l',S,h,k=>by
    simp only [a_h,Option.some.injEq] at h
    subst h
    exact k a S
  | o :: l1,l2,a,l,l',S,h,k=>by
    unfold a_h at h
    split at h
    · rename_i d hg hd
      split at h
      · rename_i v hv
        split at h
        · rename_i hN
          exact w_go S hg (a_s S hd hN (c_B S o tys ht hv) fun a' S'=>a_T tys ht l1 S' h k)
        · cases h
      · cases h
    · rename_i d hg hd
      split at h
      · rename_i hN
        refine c_q S hg ?_
        rw [hd]
        exact a_T tys ht l1 (S.put (by simpa [Nat.blt_eq] using hN) undef) h k
      · cases h
    · rename_i hg hd
      refine c_q S hg ?_
      rw [hd]
      exact a_T tys ht l1 S h k
    · cases h
theorem a_O (S:StD ds N a l1) (tys:List (TypeId × GT)) (ht:tysOk P tys = true) (m:Nat) {l0:List Oper} {l':List (Nat × Value)} (h:a_h tys ops N (l0.take m) l1 = some l')
    (k:∀ a',StD ds N a' l' → RL P ops (l0.drop m) K w a' w):RL P ops l0 K w a w:=by
  rw [← List.take_append_drop m l0]
  exact a_T tys ht _ S h k
theorem app:∀ (l1:List Oper) {l2:List Oper} {M:Act → World → Prop} {a:Act} {w:World},RL P ops l1 M w0 a w → (∀ a' w',M a' w' → w' = w0 → RL P ops l2 K w0 a' w') → RL P ops (l1 ++ l2) K w0 a w
  | [],l2,M,a,w,h,k=>k a w h.2 h.1
  | o :: l1,l2,M,a,w,h,k=>by
    obtain ⟨e,h⟩:=h
    refine ⟨e,h.imp (fun q=>⟨q.1,Oper.wp_mono (fun a' w' h'=>app l1 h' k) q.2⟩) (fun q=>⟨q.1,app l1 q.2 k⟩)⟩
theorem seg (m:Nat) (M:Act → World → Prop) {l0:List Oper} (h1:RL P ops (l0.take m) M w a w) (h2:∀ a' w',M a' w' → RL P ops (l0.drop m) K w a' w):RL P ops l0 K w a w:=by
  rw [← List.take_append_drop m l0]
  exact app _ h1 fun a' w' h e=>by subst e;exact h2 a' w' h
theorem fm_range {α:Type}:∀ l:List α,(List.range l.length).filterMap (fun i=>l[i]?) = l
  | []=>rfl
  | x :: l=>by
    rw [List.length_cons,List.range_succ_eq_map,List.filterMap_cons_some (show (x :: l)[0]? = some x from rfl),List.filterMap_map]
    exact congrArg (x :: ·) (fm_range l)
theorem any_ (hs:Region.noSelect l.toArray = true) (hv:l.all (fun o=>valB o.op) = true) (hQ:PanicOk Q):∀ (is:List Nat) {D:List Nat} {a:Act},a_Z l m D is = true → Region.ready .any l.toArray (a_r m (is.reverse ++ D)) = [] →
    RL P l.toArray (is.filterMap (l[·]?)) (fun a w=>Q .normal a w) w0 a w0 → wpAnyH P .any l.toArray Q (· = w0) is.length (a_r m D) a w0
  | [],D,a,_,he,h=>⟨he,h.2⟩
  | i :: is,D,a,hc,he,h=>by
    simp only [a_Z,Bool.and_eq_true] at hc
    obtain ⟨⟨hf,hr⟩,hc⟩:=hc
    have hi:i ∈ Region.ready .any l.toArray (a_r m D):=by simpa using hr
    obtain ⟨_,o,ho,_⟩:=mem_ready.1 hi
    have ho':l[i]? = some o:=by simpa using ho
    rw [List.filterMap_cons_some ho'] at h
    have he':Region.ready .any l.toArray (a_r m (is.reverse ++ (i :: D))) = []:=by simpa using he
    have fin:∀ v,YieldsIf P l.toArray (· = w0) o v a → RL P l.toArray (is.filterMap (l[·]?)) (fun a w=>Q .normal a w) w0 (a.put o.dst v) w0 → wpAnyH P .any l.toArray Q (· = w0) (is.length + 1) (a_r m D) a w0:=fun v hy h' =>
      wpAnyH_first ho (Region.noSelect_spec hs) (fun c a w=>hQ.put c o.dst v a w) is.length (a_r m D) a w0 (Region.free_spec ho hf) hi hy rfl (any_ hs hv hQ is hc he' h')
    rcases h.2 with ⟨hw,h1⟩ | ⟨hw,h1⟩
    · unfold Oper.wp at h1
      cases hrun:(execOp a.eval o).run P w0 with
      | halt x w' =>
        rw [hrun] at h1
        cases x <;> simp only [Oper.upon] at h1
      | ok n w' =>
        obtain ⟨v,rfl⟩:=val_run (List.all_eq_true.1 hv o (List.mem_of_getElem? ho')) hrun
        rw [hrun] at h1
        simp only [Oper.upon] at h1
        have e:=h1.wld
        subst e
        exact fin v (.inl ⟨hw,fun w hw'=>by rw [hw'];exact hrun⟩) h1
    · exact fin undef (.inr ⟨hw,rfl⟩) h1
def roB (l:List Oper) (m:Nat):Bool:=Region.noSelect l.toArray && l.all (fun o=>valB o.op) && a_Z l m [] (List.range m) && (Region.ready .any l.toArray (a_r m ((List.range m).reverse ++ []))).isEmpty && Nat.beq l.length m
theorem any (hc:roB l m = true) (hQ:PanicOk Q) (h:RL P l.toArray l (fun a w=>Q .normal a w) w a w):wpAny P .any l.toArray Q m (a_r m []) a w:=by
  simp only [roB,Bool.and_eq_true] at hc
  obtain ⟨⟨⟨⟨h1,h2⟩,h3⟩,h4⟩,h5⟩:=hc
  have hl:l.length = m:=Nat.eq_of_beq_eq_true h5
  have e:(List.range m).filterMap (l[·]?) = l:=by rw [← hl];exact fm_range l
  have:=any_ (P:=P) (w0:=w) (a:=a) h1 h2 hQ (List.range m) h3 (List.isEmpty_iff.1 h4) (by rw [e];exact h)
  rw [List.length_range] at this
  exact wpAny_of_held _ _ _ _ this
end
end Ro
section
variable {a:Act} {w:World} {P:Program} {l:List Oper} {Q:Exit → Act → World → Prop}
theorem b_T {id:Nat} (m:Nat) (hm:P.follows .mixedOrders = true) (hc:Ro.roB l m = true) (hQ:PanicOk Q) (h:∀ w',Below w.heap.size w w' → Ro.RL P l.toArray l (fun a w=>Q .normal a w) w' a w'):(Code.region id l.toArray true).wp P Q a w:=by
  have hl:l.length = m:=by simp only [Ro.roB,Bool.and_eq_true] at hc;exact Nat.eq_of_beq_eq_true hc.2
  exact b_B m hm hl hQ fun w' hb hq=>Ro.any hc hq (h w' hb)
end
end Go.Proofs.YtjinaepmpoclaaaGreatDoor
namespace Go.Proofs.YtjinaepmpoclaaaGreatDoor
open Go.RowKit
theorem RepV.rawV {w:World} {K:Nat → Prop} {v:Value} (h:v.oneCell' = true):RepV .raw w K v v:=⟨[v],⟨rfl,h⟩,rfl⟩
theorem run_part {P:Program} {w W:World} {K:Nat → Prop} {T:TypeId} {t:GT} {x:PT t} {c c1 c2:List Value} (ht:tiQ P t false T [] 0 = true) (h1:RepCs t W K c x) :
    (part T (c1 ++ (c ++ c2)).toArray c1.length).run P w = .ok (if t.agg then .agg c.toArray else c.headD undef) w:=by
  obtain ⟨i,hi,hsz⟩:=a_u ht
  have hl:=h1.len
  have one:t.agg = false → (∀ d,P.underlying T = some d → (match d with | .struct _ | .array _ _=>true | _=>false) = false) → P.underlying T ≠ .none → t.sz = 1 → (part T (c1 ++ (c ++ c2)).toArray c1.length).run P w = .ok (if t.agg then .agg c.toArray else c.headD undef) w:=by
    intro hagg hd hne h1z
    rw [h1z] at hl
    match c,hl with
    | [u],_ =>
      cases hu:P.underlying T with
      | none=>exact absurd hu hne
      | some d =>
        have:=hd d hu
        rw [if_neg (by simp [hagg])]
        cases d <;> simp at this <;> simp [part,isAgg,run_underlying hu]
  have ext:((c1 ++ (c ++ c2)).toArray.extract c1.length (c1.length + t.sz)) = c.toArray:=by
    rw [← hl]
    simp
  cases t with
  | int k=>exact one rfl (fun d hd=>by rw [a_Q ht] at hd;cases hd;rfl) (by rw [a_Q ht];simp) rfl
  | bool=>exact one rfl (fun d hd=>by rw [a_Y ht] at hd;cases hd;rfl) (by rw [a_Y ht];simp) rfl
  | str=>exact one rfl (fun d hd=>by rw [a_R ht] at hd;cases hd;rfl) (by rw [a_R ht];simp) rfl
  | sl e=>obtain ⟨E,hE,_⟩:=a_V ht;exact one rfl (fun d hd=>by rw [hE] at hd;cases hd;rfl) (by rw [hE];simp) rfl
  | raw=>obtain ⟨d0,hE,hd0⟩:=d_x ht;exact one rfl (fun d hd=>by rw [hE] at hd;cases hd;exact hd0) (by rw [hE];simp) rfl
  | pair a b=>simp [tiQ] at ht
  | st f =>
    obtain ⟨fs,hfs,_⟩:=b_9 ht
    rw [if_pos rfl]
    have ext':((c1 ++ (c ++ c2)).toArray.extract c1.length (c1.length + i.size)) = c.toArray:=by rw [hsz];exact ext
    simp only [part,isAgg,Sem.run_bind,run_underlying hfs,Result.andThen_ok,Sem.run_pure,if_pos,sizeOf,typeInfo,run_program,hi,ext']
  | arr m e =>
    obtain ⟨E,hE,_⟩:=b_s ht
    rw [if_pos rfl]
    have ext':((c1 ++ (c ++ c2)).toArray.extract c1.length (c1.length + i.size)) = c.toArray:=by rw [hsz];exact ext
    simp only [part,isAgg,Sem.run_bind,run_underlying hE,Result.andThen_ok,Sem.run_pure,if_pos,sizeOf,typeInfo,run_program,hi,ext']
section
variable {ds:List Deferred} {N:Nat} {a:Act} {l:List (Nat × Value)} {w w0:World} {P:Program} {ops:Array Oper} {Q:Exit → Act → World → Prop} {rest:List Oper} {o:Oper} {Kont:Act → World → Prop} {d:Nat} {K:Nat → Prop} {n:Nat} {L:List (Option Nat)}
theorem op_idxA (S:StD ds N a l) {T:TypeId} {x i:Operand} {m:Nat} {e:GT} {v:Value} {xs:List (PT e)} {k0:IntKind} {j:Int} {y:PT e} (ho:o.op = .index T x i) (ht:tiQ P (.arr m e) false T [] 0 = true) (hd:o.dst = some d) (hN:Nat.blt d N = true) (hx:ev l x = some v) (R:RepV (.arr m e) w K v xs)
    (hi:ev l i = some (.int k0 j)) (hj:idx xs j = some y) (k:∀ a' u,RepV e w K u y → StD ds N a' ((d,u) :: l) → Kont a' w):o.wp P a w Kont Q:=by
  obtain ⟨E,hE,hte⟩:=b_s ht
  obtain ⟨ie,hie,hse⟩:=a_u hte
  obtain ⟨cs,hr,rfl⟩:=R
  obtain ⟨h0,hg,hlt⟩:=b_z hj
  have hjl:j.toNat < xs.length:=by omega
  have hm:j.toNat < m:=by have:=hr.1;omega
  obtain ⟨c1,c,c2,rfl,hl1,hrep,_⟩:=Ln.arr (n:=m) hm y w K cs xs hr
  have hy:RepCs e w K c y:=by
    have hrep':RepCs e w K c (xs.getD j.toNat y):=hrep
    have e0:xs.getD j.toNat y = y:=by simp [List.getD,hg]
    rwa [e0] at hrep'
  have hp:=run_part (P:=P) (w:=w) (c1:=c1) (c2:=c2) hte hy
  refine a_s S (v:=if e.agg then .agg c.toArray else c.headD undef) hd hN ?_ fun a'=>k a' _ ⟨c,hy,rfl⟩
  rw [if_pos (show (GT.arr m e).agg = true from rfl)] at hx
  have hlen:(0 ≤ j ∧ j < (m:Int)):=by omega
  rw [hl1,← List.append_assoc] at hp
  simp only [execOp,ho,S.eval hx,S.eval hi,Instr.index,asIntOf,Sem.run_bind,Sem.run_pure,Result.andThen_ok,run_underlying hE,if_pos hlen,sizeOf,typeInfo,run_program,hie,hse,hp]
end
end Go.Proofs.YtjinaepmpoclaaaGreatDoor
namespace Go.Proofs.YtjinaepmpoclaaaGreatDoor
open Go.RowKit
structure SbX (w0:World) (X:List (Option Nat)) (w:World):Prop where
  size:w0.heap.size ≤ w.heap.size
  block:∀ k,k < w0.heap.size → some k ∉ X → w.heap[k]? = w0.heap[k]?
theorem SbX.refl (w:World) (X:List (Option Nat)):SbX w X w:=⟨Nat.le_refl _,fun _ _ _=>rfl⟩
theorem SbX.step {w0 w w':World} {X:List (Option Nat)} (h:SbX w0 X w) (hb:Below w.heap.size w w'):SbX w0 X w' :=
  ⟨Nat.le_trans h.size hb.size,fun k hk hx=>(hb.block k (Nat.lt_of_lt_of_le hk h.size)).trans (h.block k hk hx)⟩
theorem SbX.apd {w0 w w':World} {X:List (Option Nat)} {v v':Value} (h:SbX w0 X w) (A:Apd w w' v v') (hg:∀ c,v.ownBlock = some c → w0.heap.size ≤ c ∨ some c ∈ X):SbX w0 X w' :=
  ⟨Nat.le_trans h.size A.grown.size,fun k hk hx=>(A.grown.block k (Nat.lt_of_lt_of_le hk h.size) fun e=>by
    rcases hg k e.symm with q | q
    · omega
    · exact hx q).trans (h.block k hk hx)⟩
theorem Apd.geX {n:Nat} {w w':World} {X:List (Option Nat)} {v v':Value} (A:Apd w w' v v') (hg:∀ c,v.ownBlock = some c → n ≤ c ∨ some c ∈ X) (hn:n ≤ w.heap.size):∀ c,v'.ownBlock = some c → n ≤ c ∨ some c ∈ X:=fun c hc=>by
  rcases A.at_ with e | e
  · exact hg c (e ▸ hc)
  · rw [e] at hc;obtain rfl:=Option.some.inj hc;exact .inl hn
theorem notX {x y:Option Nat} {X:List (Option Nat)} (h:x ≠ y) (t:x ∉ X):x ∉ y :: X:=fun hm=>by
  rcases List.mem_cons.1 hm with e | e
  · exact h e
  · exact t e
theorem SbX.cell {w w':World} {X:List (Option Nat)} (h:SbX w X w') {p:Addr} (hp:p.block < w.heap.size) (hx:some p.block ∉ X):w'.cell? p = w.cell? p :=
  World.cell?_of_block (h.block p.block hp hx)
section
variable {ds:List Deferred} {N:Nat} {a:Act} {l0 l1:List (Nat × Value)} {w:World} {S0:World → Prop} {P:Program} {l:List Oper} {Q:Exit → Act → World → Prop} {o:Oper} {m k i:Nat} {D:List Nat}
theorem c_P {id:Nat} (m:Nat) (X:List (Option Nat)) (hm:P.follows .mixedOrders = true) (hl:l.length = m) (hQ:PanicOk Q) (h:∀ w',Below w.heap.size w w' → PanicOk Q → AnH P l Q m (SbX w' X) m [] a w'):(Code.region id l.toArray true).wp P Q a w:=by
  subst hl
  refine wp_region_any hm (wpAny_of_held (S:=SbX { w with drawn:=w.drawn + 1 } X) _ _ _ _ ?_)
  have:=h { w with drawn:=w.drawn + 1 } ⟨rfl,rfl,rfl,Nat.le_refl _,fun _ _=>rfl⟩ hQ
  simpa [AnH,a_r] using this
namespace R
end R
theorem anx_load {X:List (Option Nat)} {t:GT} {T:TypeId} {ad:Operand} {d:Nat} {p:Addr} {x:PT t} {K:Nat → Prop} (hs:Region.noSelect l.toArray = true) (hQ:PanicOk Q) (hc:a_Z l m D [i] = true) (ho:l[i]? = some o) (S:StD ds N a l0) (hg:gOk l.toArray l0 o = some true)
    (hop:o.op = .load T ad) (ht:tiQ P t false T [] 0 = true) (hd:o.dst = some d) (hN:Nat.blt d N = true) (ha:ev l0 ad = some (.pointer (some p))) (hA:RepAt t w K p x) (hb:p.block < w.heap.size) (hx:some p.block ∉ X)
    (kk:∀ a' v,RepV t w K v x → StD ds N a' ((d,v) :: l0) → AnH P l Q m (SbX w X) k (i :: D) a' w):AnH P l Q m (SbX w X) (k + 1) D a w:=by
  simp only [a_Z,Bool.and_eq_true] at hc
  obtain ⟨⟨hf,hr⟩,_⟩:=hc
  have hi:i ∈ Region.ready .any l.toArray (a_r m D):=by simpa using hr
  have ho':l.toArray[i]? = some o:=by simpa using ho
  obtain ⟨h0,cs,hR,hcell⟩:=hA
  have hv:∀ w',SbX w X w' → (execOp a.eval o).run P w' = .ok (.value (if t.agg then .agg cs.toArray else cs.headD undef)) w':=fun w' hw'=>by
    have:=c_o (P:=P) (w:=w') ht h0 hR fun j u hj=>by
      rw [← hcell j u hj]
      exact hw'.cell (show (⟨p.block,p.off + j,.none⟩:Addr).block < w.heap.size from hb) hx
    simp [execOp,hop,S.eval ha,Instr.loadAt,Instr.sureAddr,this]
  have:=kk (a.put o.dst (if t.agg then .agg cs.toArray else cs.headD undef)) _ ⟨cs,hR,rfl⟩ (by rw [hd];exact S.put (by simpa [Nat.blt_eq] using hN) _)
  exact wpAnyH_first ho' (Region.noSelect_spec hs) (fun c a w=>hQ.put c o.dst _ a w) k (a_r m D) a w (Region.free_spec ho' hf) hi (.inl ⟨gOk.wanted S hg,hv⟩) (SbX.refl w X) this
end
section
variable {w0 w:World} {K:Nat → Prop} {n b:Nat} {L:List (Option Nat)} {e:GT} {E:TypeId}
end
section
variable {ds:List Deferred} {N:Nat} {a:Act} {l:List (Nat × Value)} {w w0:World} {P:Program} {ops:Array Oper} {Q:Exit → Act → World → Prop} {rest:List Oper} {o:Oper} {Kont:Act → World → Prop} {d:Nat} {K:Nat → Prop} {n:Nat} {L:List (Option Nat)}
end
end Go.Proofs.YtjinaepmpoclaaaGreatDoor
namespace Go.Proofs.YtjinaepmpoclaaaGreatDoor
open Go.RowKit
section
variable {ds:List Deferred} {N:Nat} {a:Act} {l0:List (Nat × Value)} {w:World} {P:Program} {l:List Oper} {Q:Exit → Act → World → Prop} {o:Oper} {m k i:Nat} {D:List Nat} {S0:World → Prop}
theorem anh_val {d:Nat} {v:Value} (hs:Region.noSelect l.toArray = true) (hQ:PanicOk Q) (hS:S0 w) (hc:a_Z l m D [i] = true) (ho:l[i]? = some o) (S:StD ds N a l0) (hg:gOk l.toArray l0 o = some true)
    (hd:o.dst = some d) (hN:Nat.blt d N = true) (hall:∀ w',(execOp a.eval o).run P w' = .ok (.value v) w') (kk:∀ a',StD ds N a' ((d,v) :: l0) → AnH P l Q m S0 k (i :: D) a' w):AnH P l Q m S0 (k + 1) D a w:=by
  simp only [a_Z,Bool.and_eq_true] at hc
  obtain ⟨⟨hf,hr⟩,_⟩:=hc
  have hi:i ∈ Region.ready .any l.toArray (a_r m D):=by simpa using hr
  have ho':l.toArray[i]? = some o:=by simpa using ho
  have:=kk (a.put o.dst v) (by rw [hd];exact S.put (by simpa [Nat.blt_eq] using hN) _)
  exact wpAnyH_first ho' (Region.noSelect_spec hs) (fun c a w=>hQ.put c o.dst _ a w) k (a_r m D) a w (Region.free_spec ho' hf) hi (.inl ⟨gOk.wanted S hg,fun w _=>hall w⟩) hS this
theorem anh_arith {d:Nat} (hs:Region.noSelect l.toArray = true) (hQ:PanicOk Q) (hS:S0 w) (hc:a_Z l m D [i] = true) (ho:l[i]? = some o) (S:StD ds N a l0) (hg:gOk l.toArray l0 o = some true)
    {op:BinOp} {T T':TypeId} {x y:Operand} (k0:IntKind) (z:Int) {p n r:Int} (hop:o.op = .binOp op T x y T') (hz0:(op,z) = (.add,p + n) ∨ (op,z) = (.sub,p - n) ∨ (op,z) = (.mul,p * n))
    (hd:o.dst = some d) (hN:Nat.blt d N = true) (hx:ev l0 x = some (.int k0 p)) (hy:ev l0 y = some (.int k0 n)) (hz:ckI k0 z = some r) (kk:∀ a',StD ds N a' ((d,.int k0 r) :: l0) → AnH P l Q m S0 k (i :: D) a' w):AnH P l Q m S0 (k + 1) D a w:=by
  refine anh_val hs hQ hS hc ho S hg hd hN (fun w'=>?_) kk
  obtain ⟨h1,_,h2⟩:=a_j hz
  subst h1
  rcases hz0 with h | h | h <;> (obtain ⟨rfl,rfl⟩:=Prod.mk.inj h;simp [execOp,hop,S.eval hx,S.eval hy,a_J,binOp,Op.intArith,h2])
end
end Go.Proofs.YtjinaepmpoclaaaGreatDoor
namespace Go.Proofs.YtjinaepmpoclaaaGreatDoor
open Go.RowKit
class TyOk (P:Program) (tys:outParam (List (TypeId × GT))):Prop where
  ok:tysOk P tys = true
section
variable {r:Option Nat} {ds:List Deferred} {N:Nat} {a:Act} {l:List (Nat × Value)} {w:World} {P:Program} {ops:Array Oper} {Q:Exit → Act → World → Prop} {K:Act → World → Prop} {tys:List (TypeId × GT)} {l0:List Oper}
theorem dl1 [T:TyOk P tys] (S:StD ds N a l) (m:Nat) (p1:Nat × Value) (k:∀ a',StD ds N a' (p1 :: l) → wpList P ops Q (l0.drop m) a' w) (h:a_h tys ops N (l0.take m) l = some (p1 :: l):=by kernel_rfl):wpList P ops Q l0 a w:=a_O S tys T.ok m h k
theorem dl2 [T:TyOk P tys] (S:StD ds N a l) (m:Nat) (p1 p2:Nat × Value) (k:∀ a',StD ds N a' (p1 :: p2 :: l) → wpList P ops Q (l0.drop m) a' w) (h:a_h tys ops N (l0.take m) l = some (p1 :: p2 :: l):=by kernel_rfl):wpList P ops Q l0 a w:=a_O S tys T.ok m h k
theorem dl3 [T:TyOk P tys] (S:StD ds N a l) (m:Nat) (p1 p2 p3:Nat × Value) (k:∀ a',StD ds N a' (p1 :: p2 :: p3 :: l) → wpList P ops Q (l0.drop m) a' w) (h:a_h tys ops N (l0.take m) l = some (p1 :: p2 :: p3 :: l):=by kernel_rfl):wpList P ops Q l0 a w:=a_O S tys T.ok m h k
theorem dl4 [T:TyOk P tys] (S:StD ds N a l) (m:Nat) (p1 p2 p3 p4:Nat × Value) (k:∀ a',StD ds N a' (p1 :: p2 :: p3 :: p4 :: l) → wpList P ops Q (l0.drop m) a' w) (h:a_h tys ops N (l0.take m) l = some (p1 :: p2 :: p3 :: p4 :: l):=by kernel_rfl):wpList P ops Q l0 a w:=a_O S tys T.ok m h k
theorem dl5 [T:TyOk P tys] (S:StD ds N a l) (m:Nat) (p1 p2 p3 p4 p5:Nat × Value) (k:∀ a',StD ds N a' (p1 :: p2 :: p3 :: p4 :: p5 :: l) → wpList P ops Q (l0.drop m) a' w) (h:a_h tys ops N (l0.take m) l = some (p1 :: p2 :: p3 :: p4 :: p5 :: l):=by kernel_rfl):wpList P ops Q l0 a w:=a_O S tys T.ok m h k
theorem dl6 [T:TyOk P tys] (S:StD ds N a l) (m:Nat) (p1 p2 p3 p4 p5 p6:Nat × Value) (k:∀ a',StD ds N a' (p1 :: p2 :: p3 :: p4 :: p5 :: p6 :: l) → wpList P ops Q (l0.drop m) a' w) (h:a_h tys ops N (l0.take m) l = some (p1 :: p2 :: p3 :: p4 :: p5 :: p6 :: l):=by kernel_rfl):wpList P ops Q l0 a w:=a_O S tys T.ok m h k
theorem dl7 [T:TyOk P tys] (S:StD ds N a l) (m:Nat) (p1 p2 p3 p4 p5 p6 p7:Nat × Value) (k:∀ a',StD ds N a' (p1 :: p2 :: p3 :: p4 :: p5 :: p6 :: p7 :: l) → wpList P ops Q (l0.drop m) a' w) (h:a_h tys ops N (l0.take m) l = some (p1 :: p2 :: p3 :: p4 :: p5 :: p6 :: p7 :: l):=by kernel_rfl):wpList P ops Q l0 a w:=a_O S tys T.ok m h k
theorem dl8 [T:TyOk P tys] (S:StD ds N a l) (m:Nat) (p1 p2 p3 p4 p5 p6 p7 p8:Nat × Value) (k:∀ a',StD ds N a' (p1 :: p2 :: p3 :: p4 :: p5 :: p6 :: p7 :: p8 :: l) → wpList P ops Q (l0.drop m) a' w) (h:a_h tys ops N (l0.take m) l = some (p1 :: p2 :: p3 :: p4 :: p5 :: p6 :: p7 :: p8 :: l):=by kernel_rfl):wpList P ops Q l0 a w:=a_O S tys T.ok m h k
theorem R.dl1 [T:TyOk P tys] (S:StD ds N a l) (m:Nat) (p1:Nat × Value) (k:∀ a',StD ds N a' (p1 :: l) → LI r P ops Q (l0.drop m) a' w) (h:a_h tys ops N (l0.take m) l = some (p1 :: l):=by kernel_rfl):LI r P ops Q l0 a w:=R.a_O S tys T.ok m h k
theorem R.dl2 [T:TyOk P tys] (S:StD ds N a l) (m:Nat) (p1 p2:Nat × Value) (k:∀ a',StD ds N a' (p1 :: p2 :: l) → LI r P ops Q (l0.drop m) a' w) (h:a_h tys ops N (l0.take m) l = some (p1 :: p2 :: l):=by kernel_rfl):LI r P ops Q l0 a w:=R.a_O S tys T.ok m h k
theorem R.dl3 [T:TyOk P tys] (S:StD ds N a l) (m:Nat) (p1 p2 p3:Nat × Value) (k:∀ a',StD ds N a' (p1 :: p2 :: p3 :: l) → LI r P ops Q (l0.drop m) a' w) (h:a_h tys ops N (l0.take m) l = some (p1 :: p2 :: p3 :: l):=by kernel_rfl):LI r P ops Q l0 a w:=R.a_O S tys T.ok m h k
theorem R.dl6 [T:TyOk P tys] (S:StD ds N a l) (m:Nat) (p1 p2 p3 p4 p5 p6:Nat × Value) (k:∀ a',StD ds N a' (p1 :: p2 :: p3 :: p4 :: p5 :: p6 :: l) → LI r P ops Q (l0.drop m) a' w) (h:a_h tys ops N (l0.take m) l = some (p1 :: p2 :: p3 :: p4 :: p5 :: p6 :: l):=by kernel_rfl):LI r P ops Q l0 a w:=R.a_O S tys T.ok m h k
theorem Ro.dl1 [T:TyOk P tys] (S:StD ds N a l) (m:Nat) (p1:Nat × Value) (k:∀ a',StD ds N a' (p1 :: l) → Ro.RL P ops (l0.drop m) K w a' w) (h:a_h tys ops N (l0.take m) l = some (p1 :: l):=by kernel_rfl):Ro.RL P ops l0 K w a w:=Ro.a_O S tys T.ok m h k
theorem Ro.dl2 [T:TyOk P tys] (S:StD ds N a l) (m:Nat) (p1 p2:Nat × Value) (k:∀ a',StD ds N a' (p1 :: p2 :: l) → Ro.RL P ops (l0.drop m) K w a' w) (h:a_h tys ops N (l0.take m) l = some (p1 :: p2 :: l):=by kernel_rfl):Ro.RL P ops l0 K w a w:=Ro.a_O S tys T.ok m h k
theorem Ro.dl4 [T:TyOk P tys] (S:StD ds N a l) (m:Nat) (p1 p2 p3 p4:Nat × Value) (k:∀ a',StD ds N a' (p1 :: p2 :: p3 :: p4 :: l) → Ro.RL P ops (l0.drop m) K w a' w) (h:a_h tys ops N (l0.take m) l = some (p1 :: p2 :: p3 :: p4 :: l):=by kernel_rfl):Ro.RL P ops l0 K w a w:=Ro.a_O S tys T.ok m h k
theorem Ro.dl8 [T:TyOk P tys] (S:StD ds N a l) (m:Nat) (p1 p2 p3 p4 p5 p6 p7 p8:Nat × Value) (k:∀ a',StD ds N a' (p1 :: p2 :: p3 :: p4 :: p5 :: p6 :: p7 :: p8 :: l) → Ro.RL P ops (l0.drop m) K w a' w) (h:a_h tys ops N (l0.take m) l = some (p1 :: p2 :: p3 :: p4 :: p5 :: p6 :: p7 :: p8 :: l):=by kernel_rfl):Ro.RL P ops l0 K w a w:=Ro.a_O S tys T.ok m h k
theorem wcs {c:Operand} {x y:Code} (t:Bool) (S:StD ds N a l) (he:ev l c = some (.bool t)) (h1:t = true → Code.wp P x Q a w) (h2:t = false → Code.wp P y Q a w):Code.wp P (Code.cond c x y) Q a w:=wp_cond_split (S.eval he) h1 h2
theorem wgo {o:Oper} {rest:List Oper} (S:StD ds N a l) (h:o.wp P a w (wpList P ops Q rest) Q) (hg:gOk ops l o = some true:=by rfl):wpList P ops Q (o :: rest) a w:=w_go S hg h
theorem R.wgo {o:Oper} {rest:List Oper} (S:StD ds N a l) (h:o.wp P a w (LI r P ops Q rest) Q) (hg:gOk ops l o = some true:=by rfl) (hd:b_t o = true:=by rfl):LI r P ops Q (o :: rest) a w:=R.w_go S hg h hd
theorem Ro.wgo {o:Oper} {rest:List Oper} (S:StD ds N a l) (h:o.wp P a w (Ro.RL P ops rest K w) (fun _ _ _=>False)) (hg:gOk ops l o = some true:=by rfl):Ro.RL P ops (o :: rest) K w a w:=Ro.w_go S hg h
theorem dzp {α:Type} {c:Prop} [Decidable c] {x:Option α} {q:α} {G:Prop} (h:(if c then none else x) = some q) (hc:c):G:=by rw [if_pos hc] at h;cases h
theorem dzn {α:Type} {b:Bool} {x:Option α} {q:α} {G:Prop} (h:(if b then x else none) = some q) (hc:b = false):G:=by rw [hc] at h;cases h
end
end Go.Proofs.YtjinaepmpoclaaaGreatDoor
namespace Go.Proofs.YtjinaepmpoclaaaGreatDoor
open Go.RowKit
section
variable {ds:List Deferred} {N:Nat} {a:Act} {l:List (Nat × Value)} {w w0:World} {P:Program} {ops:Array Oper} {Q:Exit → Act → World → Prop} {rest:List Oper} {o:Oper} {Kont:Act → World → Prop} {d:Nat}
end
end Go.Proofs.YtjinaepmpoclaaaGreatDoor
namespace Go.Proofs.YtjinaepmpoclaaaGreatDoor
open Go.RowKit
section
variable {ds:List Deferred} {N:Nat} {a:Act} {l:List (Nat × Value)} {w w0:World} {P:Program} {ops:Array Oper} {Q:Exit → Act → World → Prop} {rest:List Oper} {o:Oper} {Kont:Act → World → Prop} {d:Nat} {K:Nat → Prop} {n:Nat} {L:List (Option Nat)}
theorem u8s_rep {w:World} {K:Nat → Prop} {m:List Int} (hB:Byt m):RepCs (.arr m.length (.int .u8)) w K (u8s m) m:=by
  have hfl:∀ q:List Int,u8s q = (q.map fun x=>[Value.int .u8 x]).flatten:=by
    intro q
    induction q with
    | nil=>rfl
    | cons y q ih=>simp only [List.map_cons,List.flatten_cons,← ih];rfl
  refine ⟨rfl,m.map fun x=>[.int .u8 x],hfl m,by simp,fun j c y hc hy=>?_⟩
  simp only [List.getElem?_map,hy,Option.map_some,Option.some.injEq] at hc
  have:=hB y (List.mem_of_getElem? hy)
  exact ⟨hc.symm,by simpa [InR,IntKind.min,IntKind.max,IntKind.signed,IntKind.bits] using this⟩
theorem u8s_data {m:List Int} (hB:Byt m):((strOfNums m).data.map fun b=>Value.int .u8 b.toNat) = (u8s m).toArray:=by
  simp only [strOfNums,List.map_toArray,u8s,List.map_map]
  congr 1
  refine List.map_congr_left fun x hx=>?_
  have:=hB x hx
  simp
  omega
end
end Go.Proofs.YtjinaepmpoclaaaGreatDoor
namespace Go.Proofs.YtjinaepmpoclaaaGreatDoor
open Go.RowKit
section
variable {w0 w w':World} {L:List (Option Nat)} {K:Nat → Prop} {n b i:Nat} {v:Value} {e:GT} {E:TypeId} {xs:List (PT e)} {c:Option Nat}
end
section
variable {ds:List Deferred} {N:Nat} {a:Act} {l:List (Nat × Value)} {w w0:World} {P:Program} {ops:Array Oper} {Q:Exit → Act → World → Prop} {rest:List Oper} {o:Oper} {Kont:Act → World → Prop} {d:Nat} {K:Nat → Prop} {n:Nat} {L:List (Option Nat)}
end
end Go.Proofs.YtjinaepmpoclaaaGreatDoor
namespace Go.Proofs.YtjinaepmpoclaaaGreatDoor
open Go.RowKit
structure ApO (w w':World) (o o':Option Nat):Prop where
  grown:w.grownBy w' o
  at_:∀ k,o' = some k → o = some k ∨ w.heap.size ≤ k
  lt:∀ k,o' = some k → k < w'.heap.size
section
variable {w0 w w' A:World} {L LO P Q:List (Option Nat)} {K:Nat → Prop} {n b i m:Nat} {t:GT} {v v':Value} {o o':Option Nat}
theorem Apd.apo (h:Apd w w' v v'):ApO w w' v.ownBlock v'.ownBlock :=
  ⟨h.grown,fun k hk=>by
    rcases h.at_ with e | e
    · exact .inl (e ▸ hk)
    · rw [e] at hk;obtain rfl:=Option.some.inj hk;exact .inr (Nat.le_refl _),h.lt⟩
theorem NewO.apo (h:NewO w w' o):ApO w w' .none o :=
  ⟨⟨h.below.os,h.below.tape,h.below.output,h.below.size,fun k hk _=>h.below.block k hk⟩,fun k hk=>.inr (h.ge k hk),h.lt⟩
theorem ApO.keeps (h:ApO w w' o o') (hi:L[i]? = some o):Keeps (Kx K n L) w w' :=
  ⟨h.grown.size,fun p hp hk=>World.cell?_of_block (h.grown.block p.block hp fun e=>hk.2 (by rw [e];exact List.mem_of_getElem? hi))⟩
theorem ApO.kk (h:ApO w w' o o') (hi:L[i]? = some o):∀ c,c < w.heap.size → Kx K n L c → Kx K n (L.set i o') c:=by
  intro c hc hk
  refine ⟨hk.1,fun hm=>?_⟩
  rcases List.mem_or_eq_of_mem_set hm with hm | e
  · exact hk.2 hm
  · rcases h.at_ c e.symm with e2 | e2
    · exact hk.2 (by rw [← e2];exact List.mem_of_getElem? hi)
    · omega
theorem RepV.apo {u:Value} {x:PT t} (h:RepV t w (Kx K n L) u x) (ha:ApO w w' o o') (hi:L[i]? = some o):RepV t w' (Kx K n (L.set i o')) u x:=h.keep (ha.keeps hi) (ha.kk hi)
theorem Wd.apo (h:Wd w0 w L) (ha:ApO w w' o o') (hi:L[i]? = some o):Wd w0 w' (L.set i o'):=by
  have hsz:=h.below.size
  refine ⟨h.below.trans ⟨ha.grown.os,ha.grown.tape,ha.grown.output,ha.grown.size,fun k hk=>ha.grown.block k (by omega) fun e=>?_⟩,fun c hm=>?_,?_⟩
  · have:=h.own k (by rw [e];exact List.mem_of_getElem? hi)
    omega
  · have hs:=ha.grown.size
    rcases List.mem_or_eq_of_mem_set hm with hm | e
    · have:=h.own c hm;omega
    · have h2:=ha.lt c e.symm
      rcases ha.at_ c e.symm with e2 | e2
      · have:=h.own c (by rw [← e2];exact List.mem_of_getElem? hi);omega
      · omega
  · have hd:=List.pairwise_iff_getElem.1 h.dis
    refine List.pairwise_iff_getElem.2 fun p q hp hq hpq=>?_
    simp only [List.length_set] at hp hq
    rw [List.getElem_set,List.getElem_set]
    have hil:i < L.length:=(List.getElem?_eq_some_iff.1 hi).1
    have hiv:L[i] = o:=(List.getElem?_eq_some_iff.1 hi).2
    have key:∀ (r:Nat) (hr:r < L.length),r ≠ i → ∀ c,L[r] = some c → o' ≠ some c:=by
      intro r hr hri c hc e
      rcases ha.at_ c e with e2 | e2
      · rcases h.neq (p:=r) (q:=i) hri (List.getElem?_eq_getElem hr) hi with e3 | e3
        · rw [hc] at e3;cases e3
        · exact e3 (by rw [hc,e2])
      · have:=(h.own c (by rw [← hc];exact List.getElem_mem hr)).2
        omega
    split
    · rename_i hip
      subst hip
      rw [if_neg (by omega)]
      rcases Option.eq_none_or_eq_some o' with ho | ⟨c,ho⟩
      · exact .inl ho
      · exact .inr fun e=>key q hq (by omega) c (e.symm.trans ho) ho
    · split
      · rename_i hiq
        subst hiq
        cases hp2:L[p] with
        | none=>exact .inl rfl
        | some c=>exact .inr fun e=>key p hp (by omega) c hp2 e.symm
      · exact hd p q hp hq hpq
theorem ApO.away (W:Wd w0 w L) (hi:L[i]? = some o) {j:Nat} (hj:L[j]? = some (some b)) (hji:j ≠ i):some b ≠ o:=fun e=>by
  rcases W.neq hji hj hi with e2 | e2
  · cases e2
  · exact e2 e
theorem Bx.apo {T:TypeId} {x:PT t} (h:Bx t T w (Kx K n L) b x) (W:Wd w0 w L) (ha:ApO w w' o o') (hi:L[i]? = some o) {j:Nat} (hj:L[j]? = some (some b)) (hji:j ≠ i):Bx t T w' (Kx K n (L.set i o')) b x:=by
  have hl:=h.lt
  obtain ⟨cs,h1,h2⟩:=h
  exact ⟨cs,(ha.grown.block b hl (ApO.away W hi hj hji)).trans h1,h2.keep (ha.keeps hi) (ha.kk hi)⟩
theorem Rnd.apo (h:Rnd A LO w L) (ha:ApO w w' o o') (hi:L[i]? = some o):Rnd A LO w' (L.set i o') :=
  have hm:=List.mem_of_getElem? hi
  ⟨ha.grown.os.trans h.os,ha.grown.tape.trans h.tape,ha.grown.output.trans h.output,Nat.le_trans h.size ha.grown.size,fun b hl hb=>(ha.grown.block b (Nat.lt_of_lt_of_le hl h.size) fun e=>hb (h.old b hl (by rw [e];exact hm))).trans (h.keep b hl hb),
   fun b hl hb=>by
    rcases List.mem_or_eq_of_mem_set hb with hb | e
    · exact h.old b hl hb
    · rcases ha.at_ b e.symm with e2 | e2
      · exact h.old b hl (by rw [← e2];exact hm)
      · have:=h.size;omega⟩
def Oa (e:GT) (E:TypeId) (w:World) (n:Nat) (K:Nat → Prop) (o:Option Nat) (v:Value) (xs:List (PT e)):Prop :=
  (o = v.ownBlock ∧ Ow e E w n K v xs .none) ∨ (o = .none ∧ RepV (.sl e) w K v ⟨xs,some xs.length⟩)
variable {e:GT} {E:TypeId} {xs:List (PT e)}
theorem Ow.oa {c:Option Nat} (h:Ow e E w m K v xs c):Oa e E w m K v.ownBlock v xs:=.inl ⟨rfl,h.forget⟩
theorem Oa.full {x:Sl (PT e)} (h:RepV (.sl e) w K v x) (hc:x.cap = some x.xs.length):Oa e E w m K .none v x.xs:=.inr ⟨rfl,by cases x;simp only at hc;rw [hc] at h;exact h⟩
theorem Oa.step (h:Oa e E w m K o v xs) (hb:Below w.heap.size w w'):Oa e E w' m K o v xs:=h.imp (fun h=>⟨h.1,h.2.step hb⟩) fun h=>⟨h.1,h.2.step hb⟩
theorem Oa.box (h:Oa e E w n (Kx K n L) o v xs) (hb:NewB w w' b):Oa e E w' n (Kx K n (some b :: L)) o v xs:=h.imp (fun h=>⟨h.1,h.2.box hb⟩) fun h=>⟨h.1,h.2.box hb⟩
theorem Oa.newO {o2:Option Nat} (h:Oa e E w n (Kx K n L) o v xs) (hb:NewO w w' o2):Oa e E w' n (Kx K n (o2 :: L)) o v xs:=h.imp (fun h=>⟨h.1,h.2.newO hb⟩) fun h=>⟨h.1,h.2.newO hb⟩
theorem Oa.wrote (h:Oa e E w n (Kx K n L) o v xs) (hw:Wrote b w w') (hb:some b ∈ L) (hne:o ≠ some b):Oa e E w' n (Kx K n L) o v xs:=h.imp (fun h=>⟨h.1,h.2.wrote hw hb (h.1 ▸ hne)⟩) fun h=>⟨h.1,h.2.wrote hw hb⟩
theorem Oa.apd {u u':Value} (h:Oa e E w n (Kx K n L) o v xs) (W:Wd w0 w L) (ha:Apd w w' u u') (hi:L[i]? = some u.ownBlock) {j:Nat} (hj:L[j]? = some o) (hji:j ≠ i):Oa e E w' n (Kx K n (L.set i u'.ownBlock)) o v xs :=
  h.imp (fun h=>⟨h.1,h.2.apd W ha hi (h.1 ▸ hj) hji⟩) fun h=>⟨h.1,h.2.apd ha hi⟩
theorem Oa.lessAt (h:Oa e E w n (Kx K n L) o v xs) (i:Nat):Oa e E w n (Kx K n (L.eraseIdx i)) o v xs:=h.imp (fun h=>⟨h.1,h.2.lessAt i⟩) fun h=>⟨h.1,h.2.lessAt i⟩
theorem Oa.drop (h:Oa e E w n (Kx K n L) o v xs) (i:Nat):Oa e E w n (Kx K n (L.drop i)) o v xs:=h.imp (fun h=>⟨h.1,h.2.drop i⟩) fun h=>⟨h.1,h.2.drop i⟩
theorem Oa.mv {o2:Option Nat} (h:Oa e E w n (Kx K n L) o v xs) (i:Nat) (hi:L[i]? = some o2):Oa e E w n (Kx K n (o2 :: L.eraseIdx i)) o v xs:=h.imp (fun h=>⟨h.1,h.2.mv i hi⟩) fun h=>⟨h.1,h.2.mv i hi⟩
theorem RepV.capNone {c:Option Nat} (h:RepV (.sl e) w K v ⟨xs,c⟩):RepV (.sl e) w K v ⟨xs,.none⟩:=by
  obtain ⟨cs,⟨A,n,c',h1,h2,h3,h4,h5,h6⟩,hv⟩:=h
  exact ⟨cs,⟨A,n,c',h1,h2,h3,h4,(fun k h=>by cases h),h6⟩,hv⟩
theorem Oa.read (h:Oa e E w n (Kx K n L) o v xs):RepV (.sl e) w (Kx K n []) v ⟨xs,.none⟩:=by
  rcases h with h | h
  · exact h.2.read
  · exact h.2.out.capNone
theorem Oa.raw (h:Oa e E w m K o v xs):∀ {K':Nat → Prop},RepV .raw w K' v v:=by
  intro K'
  rcases h with h | h
  · exact h.2.raw
  · obtain ⟨A,m0,c0,rfl,_⟩:=h.2.sl
    exact ⟨_,⟨rfl,rfl⟩,rfl⟩
theorem Oa.pubAt (h:Oa e E w n (Kx K n L) o v xs) (W:Wd w0 w L) (i:Nat) (hi:L[i]? = some o):RepV (.sl e) w (Kx K n (L.eraseIdx i)) v ⟨xs,.none⟩:=by
  rcases h with h | h
  · exact h.2.pubAt W i (h.1 ▸ hi)
  · exact (h.2.lessAt i).capNone
theorem sl3_full {α:Type} {s r:Sl α} {lo hi:Int} (h:c_c s lo hi hi = some r):r.cap = some r.xs.length:=by
  unfold c_c at h
  split at h
  · rename_i hc
    obtain rfl:=Option.some.inj h
    simp only [List.length_drop,List.length_take,Option.some.injEq]
    omega
  · cases h
end
def appO {α:Type} (xs ys:List α):Option (List α):=if ys ≠ [] ∧ xs.length + ys.length ≤ 1099511627776 then some (xs ++ ys) else .none
section
variable {ds:List Deferred} {N:Nat} {a:Act} {l:List (Nat × Value)} {w w0:World} {P:Program} {ops:Array Oper} {Q:Exit → Act → World → Prop} {rest:List Oper} {o:Oper} {Kont:Act → World → Prop} {d:Nat} {K:Nat → Prop} {n:Nat} {L:List (Option Nat)}
theorem b_U (S:StD ds N a l) (W:Wd w0 w L) {s x:Operand} {T E:TypeId} {e:GT} {v u:Value} {lb:Option Nat} {xs r:List (PT e)} {ys:Sl (PT e)} (i:Nat) (ho:o.op = .call { callee:=.builtin .append,args:=#[s,x],argTypes:=#[T,T] }) (ht:tiQ P (.sl e) false T [] 0 = true) (hE:P.underlying T = some (.slice E)) (hby:bytesB P T e = true) (hd:o.dst = some d) (hN:Nat.blt d N = true)
    (hs:ev l s = some v) (hx:ev l x = some u) (O:Oa e E w w0.heap.size (Kx K w0.heap.size L) lb v xs) (hi:L[i]? = some lb) (R:RepV (.sl e) w (Kx K w0.heap.size L) u ys) (hr:appO xs ys.xs = some r)
    (k:∀ a' w' v',ApO w w' lb v'.ownBlock → Ow e E w' w0.heap.size (Kx K w0.heap.size (L.set i v'.ownBlock)) v' r .none → StD ds N a' ((d,v') :: l) → Kont a' w'):o.wp P a w Kont Q:=by
  unfold appO at hr
  split at hr
  · rename_i hc
    rcases O with ⟨rfl,O⟩ | ⟨rfl,O⟩
    · refine a_P S W i ho ht hE hby hd hN hs hx O hi R (r:=r) (by unfold c_G;rw [if_pos hc.2];exact hr) fun a' w' v' A O' S'=>k a' w' v' A.apo ?_ S'
      exact O'.forget
    · refine c_O S W ho ht hE hby hd hN hs hx O R (r:=r) (by unfold appF;rw [if_pos ⟨rfl,hc.1,hc.2⟩];exact hr) fun a' w' v' A O' S'=>k a' w' v' A.apo ?_ S'
      have hm:=O'.mv (i + 1) (o:=.none) (by simpa using hi)
      have:(L.set i v'.ownBlock).Sublist (L.set i v'.ownBlock):=List.Sublist.refl _
      obtain ⟨cs,h1,h2,h3⟩:=O'
      refine ⟨cs,h1,h2.keep (Keeps.refl _ _) fun c _ hk=>⟨hk.1,fun hm=>hk.2 ?_⟩,h3⟩
      rcases List.mem_or_eq_of_mem_set hm with hm | e
      · exact List.mem_cons_of_mem _ hm
      · rw [e];exact List.mem_cons_self ..
  · cases hr
end
end Go.Proofs.YtjinaepmpoclaaaGreatDoor
namespace Go.Proofs.YtjinaepmpoclaaaGreatDoor
open Go.RowKit
section
variable {w0 w w' A:World} {L LO P Q:List (Option Nat)} {K K':Nat → Prop} {n b i m:Nat} {v v':Value} {o o':Option Nat} {e:GT} {E:TypeId} {xs:List (PT e)}
end
section
variable {ds:List Deferred} {N:Nat} {a:Act} {l:List (Nat × Value)} {w w0:World} {P:Program} {ops:Array Oper} {Q:Exit → Act → World → Prop} {rest:List Oper} {o:Oper} {Kont:Act → World → Prop} {d:Nat} {K:Nat → Prop} {n:Nat} {L:List (Option Nat)}
end
end Go.Proofs.YtjinaepmpoclaaaGreatDoor
namespace Go.Proofs.YtjinaepmpoclaaaGreatDoor
open Go.RowKit
section
variable {ds:List Deferred} {N:Nat} {a:Act} {l0 l1:List (Nat × Value)} {w w0 w1:World} {P:Program} {Q:Exit → Act → World → Prop} {l:List Oper} {o:Oper} {m i k:Nat} {D:List Nat}
end
end Go.Proofs.YtjinaepmpoclaaaGreatDoor
namespace Go.Proofs.YtjinaepmpoclaaaGreatDoor
open Go.RowKit
structure ClE (kd:IntKind) (t:GT) (T:TypeId) (Ls:List (Option Nat)) (w:World) (c:List (Int × PT t)) (mb:Nat) (es:Array MapEntry) (n:Nat):Prop where
  at_:Ls[0]? = some (some mb)
  map:w.heap[mb]? = some (.map es n)
  all:∀ b,some b ∈ Ls → b < w.heap.size
  len:es.toList.length = c.length
  le:c.length < Ls.length
  born:(es.toList.map (·.born)).Nodup
  lt:∀ e ∈ es.toList,e.born < n
  nd:(c.map (·.1)).Nodup
  free:∀ j,c.length < j → j < Ls.length → Ls[j]? = some none
  ent:∀ j k x,c[j]? = some (k,x) → InR kd k ∧ ∃ e b,es.toList[j]? = some e ∧ e.key = .int kd k ∧ e.val = .pointer (some ⟨b,0,.none⟩) ∧ Ls[j + 1]? = some (some b) ∧ ∃ cs:List Value,w.heap[b]? = some (.cells cs.toArray T (0,0)) ∧ RepCs t w NoK cs x
structure CiE (kd:IntKind) (t:GT) (T:TypeId) (Ls:List (Option Nat)) (i:Nat) (w:World) (c lf:List (Int × PT t)) (cur:Option (Int × Nat)) (mb:Nat) (es:Array MapEntry) (n:Nat) (Se:Array Nat):Prop where
  cl:ClE kd t T Ls w c mb es n
  it:w.heap[i]? = some (.mapIter (some mb) n Se n)
  ll:(leftOf es Se).toList.length = lf.length
  le:∀ (q:Nat) (e:MapEntry) (kx:Int × PT t),(leftOf es Se).toList[q]? = some e → lf[q]? = some kx → ∃ j:Nat,es.toList[j]? = some e ∧ c[j]? = some kx
  cur:∀ k b,cur = some (k,b) → ∃ (S0:Array Nat) (e:MapEntry),Se = S0.push e.born ∧ e ∈ es.toList ∧ e.key = .int kd k ∧ e.val = .pointer (some ⟨b,0,.none⟩)
section
variable {w0 w w' A B:World} {L L' LO P Q Ls:List (Option Nat)} {K:Nat → Prop} {n b d i m:Nat} {kd:IntKind} {t:GT} {T:TypeId} {c lf:List (Int × PT t)} {cur:Option (Int × Nat)} {v v':Value} {o:Option Nat}
end
section
variable {w0 w w' A B:World} {L L' LO P Q Ls:List (Option Nat)} {K:Nat → Prop} {n b d i m r:Nat} {kd:IntKind} {t:GT} {T:TypeId} {c lf:List (Int × PT t)} {cur:Option (Int × Nat)} {v v':Value} {o:Option Nat}
end
section
variable {w0 w w' A B:World} {L L' LO P Q Ls:List (Option Nat)} {K:Nat → Prop} {n b d i m r:Nat} {kd:IntKind} {t:GT} {T:TypeId} {c lf:List (Int × PT t)} {cur:Option (Int × Nat)} {v v':Value} {o:Option Nat}
end
section
variable {ds:List Deferred} {N:Nat} {a:Act} {l:List (Nat × Value)} {w w0:World} {P:Program} {ops:Array Oper} {Q:Exit → Act → World → Prop} {rest:List Oper} {o:Oper} {Kont:Act → World → Prop} {d:Nat} {Tm Tk Tv:TypeId} {kd:IntKind} {t:GT} {T:TypeId} {Ls L LO:List (Option Nat)} {K:Nat → Prop} {c lf:List (Int × PT t)} {cur:Option (Int × Nat)} {om o0 o1 o2:Option Nat}
end
section
variable {ds:List Deferred} {N:Nat} {a:Act} {l:List (Nat × Value)} {w w0:World} {P:Program} {ops:Array Oper} {Q:Exit → Act → World → Prop} {rest:List Oper} {o:Oper} {Kont:Act → World → Prop} {d:Nat} {Tm Tk Tv:TypeId} {kd:IntKind} {t:GT} {T:TypeId} {Ls L LO:List (Option Nat)} {K:Nat → Prop} {c lf:List (Int × PT t)} {cur:Option (Int × Nat)} {om o0 o1 o2:Option Nat}
end
section
variable {ds:List Deferred} {N:Nat} {a:Act} {l:List (Nat × Value)} {w w0:World} {P:Program} {ops:Array Oper} {Q:Exit → Act → World → Prop} {rest:List Oper} {o:Oper} {Kont:Act → World → Prop} {d:Nat} {Tm Tk Tv:TypeId} {kd:IntKind} {t:GT} {T:TypeId} {Ls L LO:List (Option Nat)} {K:Nat → Prop} {n:Nat} {c lf:List (Int × PT t)} {cur:Option (Int × Nat)} {om o0 o1 o2:Option Nat}
end
section
variable {w:World} {L Ls LO:List (Option Nat)} {kd:IntKind} {t:GT} {T:TypeId} {c lf:List (Int × PT t)} {cur:Option (Int × Nat)} {i:Nat} {o:Option Nat}
end
section
variable {ds:List Deferred} {N:Nat} {a:Act} {l:List (Nat × Value)} {w:World} {P:Program} {Q:Exit → Act → World → Prop} {o:Oper} {Kont:Act → World → Prop} {d:Nat}
end
end Go.Proofs.YtjinaepmpoclaaaGreatDoor
namespace Go.Proofs.YtjinaepmpoclaaaGreatDoor
open Go.RowKit
theorem bTr {b:Bool} (h:¬ b = false):b = true:=by cases b <;> simp_all
theorem bFa {b:Bool} (h:¬ b = true):b = false:=by cases b <;> simp_all
def Mv (L L':List (Option Nat)):Prop:=∃ i o,L[i]? = some o ∧ L' = o :: L.eraseIdx i
section
variable {L L':List (Option Nat)} {w w0 A:World} {K:Nat → Prop} {n b m:Nat} {t:GT} {u:Value} {p:Addr} {x:PT t} {T:TypeId} {e:GT} {E:TypeId} {v:Value} {xs:List (PT e)} {c:Option Nat} {o:Option Nat}
theorem RepV.pm (h:RepV t w (Kx K n L) u x) (q:Mv L L'):RepV t w (Kx K n L') u x:=by obtain ⟨i,o1,hi,rfl⟩:=q;exact h.mv i hi
theorem Pr.pm (h:Pr t w (Kx K n L) p x) (q:Mv L L'):Pr t w (Kx K n L') p x:=by obtain ⟨i,o1,hi,rfl⟩:=q;exact h.mv i hi
theorem Bx.pm (h:Bx t T w (Kx K n L) b x) (q:Mv L L'):Bx t T w (Kx K n L') b x:=by obtain ⟨i,o1,hi,rfl⟩:=q;exact h.mv i hi
theorem Ow.pm (h:Ow e E w m (Kx K n L) v xs c) (q:Mv L L'):Ow e E w m (Kx K n L') v xs c:=by obtain ⟨i,o1,hi,rfl⟩:=q;exact h.mv i hi
theorem Oa.pm (h:Oa e E w n (Kx K n L) o v xs) (q:Mv L L'):Oa e E w n (Kx K n L') o v xs:=by obtain ⟨i,o1,hi,rfl⟩:=q;exact h.mv i hi
theorem Wd.pm (h:Wd w0 w L) (q:Mv L L'):Wd w0 w L':=by obtain ⟨i,o1,hi,rfl⟩:=q;exact h.mv i hi
theorem Rnd.pm {LO:List (Option Nat)} (h:Rnd A LO w L) (q:Mv L L'):Rnd A LO w L':=by obtain ⟨i,o1,hi,rfl⟩:=q;exact h.mv i hi
end
end Go.Proofs.YtjinaepmpoclaaaGreatDoor
namespace Go.Proofs.YtjinaepmpoclaaaGreatDoor
open Go.RowKit
def u8B (P:Program) (T T2:TypeId):Bool:=(match P.underlying T with | some (.slice E)=>(match P.underlying E with | some (.int .u8)=>true | _=>false) && (P.info? E).any fun i=>Nat.beq i.bytes 1 && Nat.beq i.size 1 && (match i.zero with | some (.int .u8 0)=>true | _=>false) | _=>false) && (match P.underlying T2 with | some .string=>true | _=>false)
section
variable {dd:List Deferred} {N:Nat} {a:Act} {l:List (Nat × Value)} {w w0:World} {P:Program} {ops:Array Oper} {Q:Exit → Act → World → Prop} {rest:List Oper} {o:Oper} {Kont:Act → World → Prop} {d:Nat} {K:Nat → Prop} {n:Nat} {L:List (Option Nat)}
theorem c_Q {B:Nat} {T T2 ty E:TypeId} {ie:TypeInfo} (hE:P.underlying T = some (.slice E)) (hS:P.underlying T2 = some .string) (hie:P.info? E = some ie) (hz:ie.zero = some (.int .u8 0)) (hs:ie.size = 1) (hb:ie.bytes = 1)
    {v:Value} {m:Nat} {cs:List Value} (h1:w.ownsRow B E 1 v m cs) (s:ByteArray) (hle:m + s.size ≤ 1099511627776) (hB:B ≤ w.heap.size) :
    ∃ v' w',(Builtin.append_ #[T,T2] ty #[v,.string s]).run P w = .ok v' w' ∧ w'.ownsRow B E 1 v' (m + s.size) (cs ++ Lib.strCells s) ∧ w.grownBy w' v.ownBlock ∧ (v'.ownBlock = v.ownBlock ∨ v'.ownBlock = some w.heap.size):=by
  obtain ⟨v',w',hr,a1,a2,_⟩:=Lib.run_append_own_string (P:=P) w B T T2 ty E ie hE hS hie hz hs hb v m cs h1 s (by simp only [maxLen];omega) (by omega) hB
  refine ⟨v',w',hr,a1,a2,?_⟩
  rcases h1.2 with ⟨rfl,rfl⟩ | ⟨g,cap,cur,rfl,hbg,hg,hnc,hcm,hcs,htake⟩
  · by_cases hm:s.size = 0
    · have hf:=Lib.run_firstCells_string (P:=P) w 1 s
      rw [hm] at hf
      have hn:Lib.strCells s = []:=List.eq_nil_of_length_eq_zero (by rw [Lib.strCells_length];exact hm)
      have:(Builtin.append_ #[T,T2] ty #[.slice none 0 0,.string s]).run P w = .ok (.slice none 0 0) w:=by
        simp [Builtin.append_,run_underlying hE,run_underlying hS,sizeOf,typeInfo,hie,hs,Builtin.lenOf,hm,hf]
      rw [this] at hr
      injection hr with e1 e2
      rw [← e1];exact .inl rfl
    · have hg:=run_append_nil_string (P:=P) w T T2 ty E ie (.int .u8 0) hE hS hie hz s (by omega) (by omega) (by rw [hb];omega)
      rw [hg] at hr
      injection hr with e1 e2
      rw [← e1];exact .inr rfl
  · have hxl:cs.length = m:=by simpa using h1.1
    by_cases hroom:m + s.size ≤ cap
    · have hcs':cur.size = cap:=by simpa using hcs
      have hg2:=Lib.run_append_room_string (P:=P) w T T2 ty E ie hE hS hie hs g m cap cur hg s hroom (by omega)
      rw [hg2] at hr
      injection hr with e1 e2
      rw [← e1];exact .inl rfl
    · have holds:∀ j u,cs[j]? = some u → w.cell? ((⟨g,0,none⟩:Addr).add j) = some u:=h1.cells (g:=g) rfl
      have hg2:=Lib.run_append_grow_string (P:=P) w T T2 ty E ie (.int .u8 0) hE hS hie hz ⟨g,0,none⟩ m cap cs (by rw [hs];simpa using hxl) holds s (by omega) (by omega) (by rw [hb];exact growslice_fits (by omega) (by omega))
      rw [hg2] at hr
      injection hr with e1 e2
      rw [← e1];exact .inr rfl
theorem b_h (S:StD dd N a l) (W:Wd w0 w L) {s x:Operand} {T T2 E:TypeId} {v:Value} {xs r ys:List Int} {c:Option Nat} (i:Nat) (ho:o.op = .call { callee:=.builtin .append,args:=#[s,x],argTypes:=#[T,T2] }) (hE:P.underlying T = some (.slice E)) (hu:u8B P T T2 = true) (hd:o.dst = some d) (hN:Nat.blt d N = true)
    (hs:ev l s = some v) (hx:ev l x = some (.string (strOfNums ys))) (O:Ow (.int .u8) E w w0.heap.size (Kx K w0.heap.size L) v xs c) (hi:L[i]? = some v.ownBlock) (hG:Byt ys ∧ ys.length ≤ 9223372036854775807) (hr:c_G xs ys = some r)
    (k:∀ a' w' v',Apd w w' v v' → Ow (.int .u8) E w' w0.heap.size (Kx K w0.heap.size (L.set i v'.ownBlock)) v' r .none → StD dd N a' ((d,v') :: l) → Kont a' w'):o.wp P a w Kont Q:=by
  obtain ⟨cs,h1,h2,h3⟩:=O
  unfold u8B at hu
  rw [hE] at hu
  simp only [Bool.and_eq_true] at hu
  obtain ⟨⟨_,hI⟩,hT2⟩:=hu
  have hS:P.underlying T2 = some .string:=by
    revert hT2
    cases hq:P.underlying T2 with
    | none=>intro h;cases h
    | some q=>cases q <;> intro h <;> first | rfl | cases h
  obtain ⟨ie,hie,hI⟩:=(Option.any_eq_true _ _).1 hI
  simp only [Bool.and_eq_true] at hI
  obtain ⟨⟨hb,hsz⟩,hz⟩:=hI
  have hb:=Nat.eq_of_beq_eq_true hb
  have hsz:=Nat.eq_of_beq_eq_true hsz
  have hz0:ie.zero = some (.int .u8 0):=by
    revert hz
    split
    · rename_i h;intro _;exact h
    · intro h;cases h
  unfold c_G at hr
  have hle:xs.length + ys.length ≤ 1099511627776:=by
    by_cases h:xs.length + ys.length ≤ 1099511627776
    · exact h
    · rw [if_neg h] at hr;cases hr
  rw [if_pos hle] at hr
  obtain rfl:=Option.some.inj hr
  have hss:(strOfNums ys).size = ys.length:=b_y ys
  have hsc:Lib.strCells (strOfNums ys) = u8s ys:=by
    have:=u8s_data hG.1
    unfold Lib.strCells
    rw [← Array.toList_map,this]
  have h1':w.ownsRow w0.heap.size E 1 v xs.length cs:=h1
  obtain ⟨v',w',hrun,a1,a2,a4⟩:=c_Q (P:=P) (ty:=o.type) hE hS hie hz0 hsz hb h1' (strOfNums ys) (by rw [hss];exact hle) W.below.size
  rw [hss,hsc] at a1
  have hap:Apd w w' v v':=⟨a2,a4,fun q hq=>(a1.lt q hq).2⟩
  have hlen:(xs ++ ys).length = xs.length + ys.length:=List.length_append
  refine a_s S (v:=v') (w':=w') hd hN (by simp [execOp,ho,resolve,invoke,builtin,S.eval hs,S.eval hx,hrun]) fun a'=>k a' w' v' hap ⟨cs ++ u8s ys,by rw [hlen];exact a1,?_,fun q hq=>by cases hq⟩
  exact (b_X h2 (u8s_rep hG.1)).keep (hap.keeps hi) (hap.kk hi)
theorem c_R (S:StD dd N a l) {Tm:TypeId} (ho:o.op = .makeMap Tm .none) (hd:o.dst = some d) (hN:Nat.blt d N = true)
    (k:∀ a' w' b,NewB w w' b → StD dd N a' ((d,.map (some b)) :: l) → Kont a' w'):o.wp P a w Kont Q:=by
  refine a_s S (v:=.map (some w.heap.size)) (w':=w.alloc (.map #[] 0)) hd hN ?_ fun a'=>k a' _ w.heap.size (a_U w _)
  simp [execOp,ho,Instr.makeMap,newObj]
  rfl
def mapB (P:Program) (T:TypeId):Bool:=match P.underlying T with | some (.map _ _)=>true | _=>false
theorem run_mapeq {T:TypeId} (ht:mapB P T = true) (A:Option Nat):(Op.equal T (.map A) (.map .none)).run P w = .ok A.isNone w:=by
  unfold mapB at ht
  split at ht
  · rename_i hu
    show (Op.equalIn (9999 + 1) T (.map A) (.map .none)).run P w = _
    rw [Op.equalIn]
    simp only [Sem.run_bind,run_underlying hu,Result.andThen_ok]
    cases A <;> rfl
  · cases ht
theorem d_8 (S:StD dd N a l) {T T':TypeId} {x y:Operand} {A:Nat} (ho:o.op = .binOp .neq T x y T') (ht:mapB P T = true) (hd:o.dst = some d) (hN:Nat.blt d N = true)
    (hx:ev l x = some (.map (some A))) (hy:ev l y = some (.map .none)) (k:∀ a',StD dd N a' ((d,.bool true) :: l) → Kont a' w):o.wp P a w Kont Q:=by
  refine a_s S hd hN ?_ k
  simp [execOp,ho,S.eval hx,S.eval hy,eqGuard,binOp,run_mapeq ht]
end
end Go.Proofs.YtjinaepmpoclaaaGreatDoor
namespace Go.Proofs.YtjinaepmpoclaaaGreatDoor
open Go.RowKit
section
variable {ds:List Deferred} {N:Nat} {a:Act} {l:List (Nat × Value)} {w:World} {P:Program} {ops:Array Oper} {o:Oper} {Kont:Act → World → Prop} {Q:Exit → Act → World → Prop} {d:Nat} {K:Nat → Prop}
end
end Go.Proofs.YtjinaepmpoclaaaGreatDoor
