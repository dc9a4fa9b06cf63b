/- The rules of the walk over plain data. Plain theorems, no condition. -/
import Derived.Test.YtlfgpmcohfaabaaGreatDoorLB1
import Derived.Lib.AppendZerosOnto
import Derived.RangeFuncNested
import Derived.RangeFuncLeaves
import Derived.OrdersIn
import Derived.ArgAppend
import Derived.Scope
import Derived.Maps.RangeRun
import Derived.OrdersHeld
import Derived.LoopN
import Derived.Lib.AppendStr
set_option linter.unusedVariables false
set_option linter.unusedSimpArgs false
namespace Go.Proofs.YtlfgpmcohfaabaaGreatDoor
open Go.RowKit
def sufB (ops:Array Oper) (n:Nat) (nxt:List Nat):Bool :=
  decide (ops.size ≤ n) || (List.range (ops.size - 1)).all fun j=>(let k:=nxt.getD j 0;decide (j < k) && decide (k ≤ if j < n then n else j + 1) &&
    match ops[k]? with
    | some o=>o.after.any fun e=>Region.binds .any e && e.on == j
    | none=>false)
theorem sufB.get {ops:Array Oper} {n:Nat} {nxt:List Nat} (h:sufB ops n nxt = true) (hn:n < ops.size) {j:Nat} (hj:j < ops.size - 1):∃ k o,j < k ∧ (k ≤ if j < n then n else j + 1) ∧ ops[k]? = some o ∧ ∃ e ∈ o.after,Region.binds .any e = true ∧ e.on = j:=by
  unfold sufB at h
  rw [decide_eq_false (by omega),Bool.false_or,List.all_eq_true] at h
  have:=h j (List.mem_range.2 hj)
  simp only [Bool.and_eq_true,decide_eq_true_eq] at this
  obtain ⟨⟨h1,h2⟩,h3⟩:=this
  cases ho:ops[nxt.getD j 0]? with
  | none=>rw [ho] at h3;cases h3
  | some o =>
    rw [ho] at h3
    simp only [Array.any_eq_true'] at h3
    obtain ⟨e,he,h4⟩:=h3
    simp only [Bool.and_eq_true,beq_iff_eq] at h4
    exact ⟨_,o,h1,h2,ho,e,he,h4.1,h4.2⟩
def d_B (ops:Array Oper) (listed:Array Bool):Prop:=∀ (i:Nat) (o:Oper),listed.getD i false = true → ops[i]? = some o → ∀ e ∈ o.after,Region.binds .any e = true → listed.getD e.on false = true
theorem sufB.before {ops:Array Oper} {n:Nat} {nxt:List Nat} (h:sufB ops n nxt = true) {listed:Array Bool} (hc:d_B ops listed) {i:Nat} {o:Oper} (ho:ops[i]? = some o) (hi:n ≤ i)
    (hall:∀ e ∈ o.after,Region.binds .any e = true → listed.getD e.on false = true):∀ d j,j + d + 1 = i → listed.getD j false = true:=by
  have hil:i < ops.size:=by
    rcases Nat.lt_or_ge i ops.size with h | h
    · exact h
    · rw [Array.getElem?_eq_none h] at ho;cases ho
  intro d
  induction d using Nat.strongRecOn with
  | ind d ih =>
    intro j hj
    obtain ⟨k,ok,h1,h2,hk,e,he,hb,hej⟩:=sufB.get h (by omega) (j:=j) (by omega)
    have hki:k ≤ i:=by
      split at h2 <;> omega
    rcases Nat.lt_or_ge k i with h3 | h3
    · have:=ih (i - k - 1) (by omega) k (by omega)
      have:=hc k ok this hk e he hb
      rwa [hej] at this
    · obtain rfl:k = i:=by omega
      rw [hk] at ho
      obtain rfl:=Option.some.inj ho
      have:=hall e he hb
      rwa [hej] at this
structure RInvP (R:World → World → Prop) (ops:Array Oper) (n:Nat) (F:Nat → Value → World → Prop) (a0:Act) (w0:World) (listed:Array Bool) (a:Act) (w:World):Prop where
  size:listed.size = ops.size
  tsize:a.tmps.size = a0.tmps.size
  defers:a.defers = a0.defers
  below:R w0 w
  keep:∀ t,(∀ (i:Nat) (o:Oper),i < n → ops[i]? = some o → o.dst ≠ some t) → a.tmps[t]? = a0.tmps[t]?
  done:∀ (i:Nat) (o:Oper) (d:Nat),listed.getD i false = true → ops[i]? = some o → o.dst = some d → ∃ v,a.tmps[d]? = some v ∧ F i v w
  doneN:∀ (i:Nat) (o:Oper),listed.getD i false = true → ops[i]? = some o → o.dst = none → F i undef w
  late:∀ i,n ≤ i → listed.getD i false = false
  closed:d_B ops listed
section
variable {R:World → World → Prop} {P:Program} {ops:Array Oper} {F:Nat → Value → World → Prop} {a0:Act} {w0:World} {Q:Exit → Act → World → Prop} {n:Nat}
theorem c_0 {listed:Array Bool} {i:Nat} (h:i < listed.size):(listed.setIfInBounds i true).getD i false = true:=by
  simp [Array.getD_eq_getD_getElem?,h]
theorem mem_dstsT {ops:Array Oper} {n i:Nat} {o:Oper} {d:Nat} (hi:i < n) (h:ops[i]? = some o) (hd:o.dst = some d):d ∈ b_t (ops.toList.take n).toArray :=
  b_G (i:=i) (o:=o) (by
    have:(ops.toList.take n)[i]? = some o:=by rw [List.getElem?_take_of_lt hi];simpa using h
    simpa using this) hd
theorem RInvP.step (hR0:∀ w,R w w) (hRt:∀ a b c,R a b → R b c → R a c) (hB:a_S ops a0.tmps.size = true) (hst:∀ i v w w',R w w' → F i v w → F i v w')
    {listed:Array Bool} {a:Act} {w:World} {i:Nat} (hin:i < n) (hs:∀ o,ops[i]? = some o → c_R (b_t (ops.toList.take n).toArray) R P ops F a0 w0 Q i o) (h:RInvP R ops n F a0 w0 listed a w) (hi:i ∈ Region.ready .any ops listed) :
    wpOp P ops Q i (fun a' w'=>RInvP R ops n F a0 w0 (listed.setIfInBounds i true) a' w') a w:=by
  obtain ⟨hun,o,ho,hall⟩:=mem_ready.1 hi
  simp only [a_S,Bool.and_eq_true,decide_eq_true_eq,List.all_eq_true] at hB
  obtain ⟨⟨hnd,hlt⟩,_⟩:=hB
  have hstep:=hs o ho a w h.below h.defers h.tsize (fun t ht=>h.keep t fun i o hi ho hd=>ht (mem_dstsT hi ho hd)) (by
    have:∀ l:List Edge,(∀ e ∈ l,e ∈ o.after ∧ Region.binds .any e = true) → d_O ops F a w l:=by
      intro l
      induction l with
      | nil=>intro _;trivial
      | cons e es ih =>
        intro hl
        refine ⟨?_,ih fun x hx=>hl x (List.mem_cons_of_mem _ hx)⟩
        obtain ⟨he,hb⟩:=hl e (by simp)
        have hd:=hall e he hb
        cases hoe:ops[e.on]? with
        | none=>trivial
        | some oe =>
          cases hde:oe.dst with
          | none=>simp [hde]
          | some d=>simpa [hde] using h.done e.on oe d hd hoe hde
    exact this _ fun e he=>by
      rw [List.mem_filter] at he
      exact ⟨Array.mem_toList_iff.1 he.1,he.2⟩)
  have fin:∀ v w',(o.dst = none → v = undef) → F i v w' → R w w' → RInvP R ops n F a0 w0 (listed.setIfInBounds i true) (a.put o.dst v) w':=by
    intro v w' hnone hv hb
    have tk:∀ t,o.dst ≠ some t → (a.put o.dst v).tmps[t]? = a.tmps[t]?:=by
      intro t hne
      cases hd:o.dst with
      | none=>rfl
      | some d =>
        have:d ≠ t:=fun e=>hne (by rw [hd,e])
        simp [Act.put,Array.getElem?_setIfInBounds_ne this]
    refine ⟨by simpa using h.size,?_,?_,hRt _ _ _ h.below hb,fun t ht=>?_,fun j p d hj hp hd=>?_,fun j p hj hp hd=>?_,fun j hj=>?_,fun j p hj hp e he hb=>?_⟩
    · cases hd:o.dst <;> simp [Act.put,h.tsize]
    · cases hd:o.dst <;> simp [Act.put,h.defers]
    · rw [tk t (ht i o hin ho),h.keep t ht]
    · by_cases hij:i = j
      · subst hij
        rw [ho] at hp
        obtain rfl:=Option.some.inj hp
        refine ⟨v,?_,hv⟩
        have:d < a.tmps.size:=by
          rw [h.tsize]
          exact hlt d (b_G ho hd)
        simp [Act.put,hd,this]
      · rw [show (listed.setIfInBounds i true).getD j false = listed.getD j false from getD_set_ne false hij] at hj
        obtain ⟨u,hu,hF⟩:=h.done j p d hj hp hd
        refine ⟨u,?_,hst _ _ _ _ hb hF⟩
        rw [tk d (fun e=>hij (c_P ops.toList hnd i j o p d (by simpa using ho) (by simpa using hp) e hd))]
        exact hu
    · by_cases hij:i = j
      · subst hij
        rw [ho] at hp
        obtain rfl:=Option.some.inj hp
        rw [← hnone hd]
        exact hv
      · rw [show (listed.setIfInBounds i true).getD j false = listed.getD j false from getD_set_ne false hij] at hj
        exact hst _ _ _ _ hb (h.doneN j p hj hp hd)
    · rw [show (listed.setIfInBounds i true).getD j false = listed.getD j false from getD_set_ne false (by omega)]
      exact h.late j hj
    · have keep:∀ m,listed.getD m false = true → (listed.setIfInBounds i true).getD m false = true:=fun m hm=>by
        by_cases him:i = m
        · subst him
          exact c_0 (by
            rcases Nat.lt_or_ge i listed.size with h1 | h1
            · exact h1
            · simp [Array.getD_eq_getD_getElem?,Nat.not_lt.2 h1] at hm)
        · rw [show (listed.setIfInBounds i true).getD m false = listed.getD m false from getD_set_ne false him]
          exact hm
      refine keep _ ?_
      by_cases hij:i = j
      · subst hij
        rw [ho] at hp
        obtain rfl:=Option.some.inj hp
        exact hall e he hb
      · rw [show (listed.setIfInBounds i true).getD j false = listed.getD j false from getD_set_ne false hij] at hj
        exact h.closed j p hj hp e he hb
  unfold wpOp
  simp only [ho]
  split
  · rename_i hw
    rw [if_pos hw] at hstep
    exact hstep.imp (Oper.wp_mono (fun a' w' ⟨v,e,hn,hv,hb⟩=>by subst e;exact fin v w' hn hv hb)) id
  · rename_i hw
    rw [if_neg hw] at hstep
    exact fin undef w (fun _=>rfl) hstep (hR0 _)
theorem RInvP.finish (hB:a_S ops a0.tmps.size = true) {listed:Array Bool} {a:Act} {w:World} (h:RInvP R ops n F a0 w0 listed a w) (hall:∀ i,i < n → i < ops.size → listed.getD i false = true)
    {K:Act → Prop} (hend:b_O F w K 0 (ops.toList.take n) a0):K a:=by
  have hB':=hB
  simp only [a_S,Bool.and_eq_true,decide_eq_true_eq,List.all_eq_true] at hB'
  obtain ⟨⟨hnd,hlt⟩,_⟩:=hB'
  have key:∀ (l:List Oper) (k:Nat) (b:Act),(∀ j,l[j]? = (ops.toList.take n)[k + j]?) → b.tmps.size = a.tmps.size → b.defers = a.defers →
      (∀ t,(∀ (j:Nat) (o:Oper),l[j]? = some o → o.dst ≠ some t) → b.tmps[t]? = a.tmps[t]?) → b_O F w K k l b → K a:=by
    intro l
    induction l with
    | nil =>
      intro k b _ hs hd ht he
      have:b = a:=by
        obtain ⟨bt,bd⟩:=b
        obtain ⟨at_,ad⟩:=a
        simp only at hd
        subst hd
        have:bt = at_:=Array.ext_getElem? fun t=>ht t (fun j o hj=>by simp at hj)
        rw [this]
      rw [← this]
      exact he
    | cons o l ih =>
      intro k b hl hs hd ht he
      have h00:(ops.toList.take n)[k]? = some o:=by simpa using (hl 0).symm
      have hkn:k < n:=by
        rcases Nat.lt_or_ge k n with h1 | h1
        · exact h1
        · rw [List.getElem?_take_eq_none h1] at h00;cases h00
      have h0:ops[k]? = some o:=by
        rw [List.getElem?_take_of_lt hkn] at h00
        simpa using h00
      have hl':∀ j,l[j]? = (ops.toList.take n)[k + 1 + j]?:=fun j=>by have:=hl (j + 1);rw [Nat.add_assoc,Nat.add_comm 1 j];exact this
      have hlk:listed.getD k false = true:=hall k hkn (by
        rcases Nat.lt_or_ge k ops.size with hk | hk
        · exact hk
        · rw [Array.getElem?_eq_none hk] at h0;cases h0)
      unfold b_O at he
      cases hod:o.dst with
      | none =>
        rw [hod] at he
        have he:=he (h.doneN k o hlk h0 hod)
        exact ih (k + 1) b hl' hs hd (fun t hn=>ht t (fun j p hj=>by
          match j,hj with
          | 0,hj=>simp at hj;subst hj;simp [hod]
          | j + 1,hj=>exact hn j p (by simpa using hj))) he
      | some d =>
        rw [hod] at he
        obtain ⟨v,hv,hF⟩:=h.done k o d hlk h0 hod
        refine ih (k + 1) (b.put (some d) v) hl' (by simp [Act.put,hs]) (by simp [Act.put,hd]) (fun t hn=>?_) (he v hF)
        by_cases hdt:d = t
        · subst hdt
          have hlt':d < b.tmps.size:=by rw [hs,h.tsize];exact hlt d (b_G h0 hod)
          simp [Act.put,hlt',hv]
        · simp only [Act.put]
          rw [Array.getElem?_setIfInBounds_ne hdt]
          refine ht t (fun j p hj=>?_)
          match j,hj with
          | 0,hj=>simp at hj;subst hj;simpa [hod] using hdt
          | j + 1,hj=>exact hn j p (by simpa using hj)
  refine key (ops.toList.take n) 0 a0 (by simp) h.tsize.symm h.defers.symm (fun t hn=>(h.keep t (fun i o hi ho hd=>?_)).symm) hend
  exact hn i o (by rw [List.getElem?_take_of_lt hi];simpa using ho) hd
theorem e_L {listed:Array Bool} {a:Act} {w:World} {k:Nat} (hl:listed.size = ops.size) (hk:∀ i,listed.getD i false = true ↔ i < k ∧ i < ops.size) (hw:wpList P ops Q (ops.toList.drop k) a w) {o:Oper} (ho:ops[k]? = some o) :
    wpOp P ops Q k (fun a' w'=>(listed.setIfInBounds k true).size = ops.size ∧ (∀ i,(listed.setIfInBounds k true).getD i false = true ↔ i < k + 1 ∧ i < ops.size) ∧ wpList P ops Q (ops.toList.drop (k + 1)) a' w') a w:=by
  have hks:k < ops.size:=by
    rcases Nat.lt_or_ge k ops.size with h | h
    · exact h
    · rw [Array.getElem?_eq_none h] at ho;cases ho
  have hd:ops.toList.drop k = o :: ops.toList.drop (k + 1):=by
    rw [List.drop_eq_getElem_cons (by simpa using hks)]
    congr 1
    have:ops.toList[k]? = some o:=by simpa using ho
    rw [List.getElem?_eq_getElem (by simpa using hks)] at this
    exact Option.some.inj this
  have h1:(listed.setIfInBounds k true).size = ops.size:=by simpa using hl
  have h2:∀ i,(listed.setIfInBounds k true).getD i false = true ↔ i < k + 1 ∧ i < ops.size:=by
    intro i
    by_cases hik:k = i
    · subst hik
      rw [c_0 (by omega)]
      exact ⟨fun _=>⟨by omega,hks⟩,fun _=>rfl⟩
    · rw [show (listed.setIfInBounds k true).getD i false = listed.getD i false from getD_set_ne false hik,hk i]
      constructor
      · rintro ⟨h,h'⟩;exact ⟨by omega,h'⟩
      · rintro ⟨h,h'⟩;exact ⟨by omega,h'⟩
  rw [hd] at hw
  unfold wpList at hw
  unfold wpOp
  simp only [ho]
  split
  · rename_i hw1
    rw [if_pos hw1] at hw
    exact hw.imp (Oper.wp_mono fun a' w' h=>⟨h1,h2,h⟩) id
  · rename_i hw1
    rw [if_neg hw1] at hw
    exact ⟨h1,h2,hw⟩
theorem RunAll.get {E:List Nat} {Fs:List (Value → World → Prop)} (hB:a_S ops a0.tmps.size = true) (hsel:Region.noSelect ops = true):∀ (l:List Oper) (k:Nat) (D:List (List (Nat × Nat))),
    (∀ j o,l[j]? = some o → ops[k + j]? = some o) → b_N E ops l D = true → RunAll R P ops a0 w0 Q Fs k l D → ∀ j o,l[j]? = some o → c_R E R P ops (fun i=>Fs.getD i (fun _ _=>True)) a0 w0 Q (k + j) o
  | [],_,_,_,_,_,j,o,h=>by simp at h
  | x :: l,k,[],_,_,h,_,_,_=>h.elim
  | x :: l,k,ds :: D,hl,hD,h,j,o,hj=>by
    simp only [b_N,Bool.and_eq_true] at hD
    match j,hj with
    | 0,hj =>
      simp at hj
      subst hj
      exact d_l (F:=Fs) (f:=b_i Fs k) hB hsel (hl 0 _ (by simp)) hD.1 (fun p _=>rfl) (b_E Fs k) fun W hW=>FillE.deps ds a0 (h.1 W hW)
    | j + 1,hj =>
      have:=RunAll.get hB hsel l (k + 1) D (fun i p hp=>by have:=hl (i + 1) p (by simpa using hp);simpa [Nat.add_assoc,Nat.add_comm 1 i] using this) hD.2 h.2 j o (by simpa using hj)
      rwa [Nat.add_assoc,Nat.add_comm 1 j] at this
theorem b_m {K:Nat → Prop} {l:List Oper} (n:Nat) (nxt:List Nat) (hR:Rel K R) (Fs:List (Value → World → Prop)) (D:List (List (Nat × Nat))) (hm:P.follows .mixedOrders = true) (hB:a_S l.toArray a0.tmps.size = true) (hsel:Region.noSelect l.toArray = true) (hsuf:sufB l.toArray n nxt = true)
    (hD:b_N (b_t (l.take n).toArray) l.toArray (l.take n) D = true) (hlen:Fs.length = (l.take n).length) (hst:StabL R Fs) (h:RunAll R P l.toArray a0 w0 Q Fs 0 (l.take n) D) (hend:∀ W,R w0 W → EndE W (fun a=>wpList P l.toArray Q (l.drop n) a W) Fs (l.take n) a0):WAny P l Q a0 w0:=by
  unfold WAny
  have hst':∀ (i:Nat) v w w',R w w' → (fun i=>Fs.getD i (fun _ _=>True)) i v w → (fun i=>Fs.getD i (fun _ _=>True)) i v w':=by
    intro i v w w' hb hF
    simp only [List.getD_eq_getElem?_getD] at hF ⊢
    cases hi:Fs[i]? with
    | none=>trivial
    | some f=>rw [hi] at hF;exact hst.all f (List.mem_of_getElem? hi) v w w' hb hF
  have hs:∀ i o,i < n → l.toArray[i]? = some o → c_R (b_t (l.take n).toArray) R P l.toArray (fun i=>Fs.getD i (fun _ _=>True)) a0 w0 Q i o:=by
    intro i o hi ho
    have:=RunAll.get hB hsel (l.take n) 0 D (fun j p hp=>by
      rcases Nat.lt_or_ge j n with h1 | h1
      · rw [List.getElem?_take_of_lt h1] at hp;simpa using hp
      · rw [List.getElem?_take_eq_none h1] at hp;cases hp) hD h i o (by rw [List.getElem?_take_of_lt hi];simpa using ho)
    rwa [Nat.zero_add] at this
  have hac:∀ (i:Nat) (o:Oper),l.toArray[i]? = some o → ∀ e ∈ o.after,Region.binds .any e = true → e.on < i:=by
    have hB':=hB
    simp only [a_S,Bool.and_eq_true,decide_eq_true_eq,List.all_eq_true] at hB'
    intro i o ho e he hb
    have:=hB'.2 (o,i) (by
      rw [List.mem_zipIdx_iff_getElem?]
      simpa using ho)
    simp only [Array.all_eq_true_iff_forall_mem] at this
    have:=this e he
    simpa [hb] using this
  have hfin:∀ {listed:Array Bool} {a:Act} {w:World},RInvP R l.toArray n (fun i=>Fs.getD i (fun _ _=>True)) a0 w0 listed a w → (∀ i,i < n → i < l.toArray.size → listed.getD i false = true) → wpList P l.toArray Q (l.toArray.toList.drop n) a w:=by
    intro listed a w hi hall
    refine RInvP.finish hB hi hall (K:=fun a=>wpList P l.toArray Q (l.toArray.toList.drop n) a w) ?_
    exact EndE.ok Fs _ 0 (l.take n) a0 hlen (fun j=>by rw [Nat.zero_add];exact b_E Fs j) (hend w hi.below)
  refine d_P (I:=fun listed a w=>RInvP R l.toArray n (fun i=>Fs.getD i (fun _ _=>True)) a0 w0 listed a w ∨ ∃ k,n ≤ k ∧ listed.size = l.toArray.size ∧ (∀ i,listed.getD i false = true ↔ i < k ∧ i < l.toArray.size) ∧ wpList P l.toArray Q (l.toArray.toList.drop k) a w)
    (fun listed a w i hI hi=>?_) (fun listed a w hI hr=>?_) _ _ _ _ ?_ ?_
  · obtain ⟨hun,o,ho,hall⟩:=mem_ready.1 hi
    rcases hI with hI | ⟨k,hnk,hsz,hk,hw⟩
    · rcases Nat.lt_or_ge i n with hin | hin
      · exact wpOp_mono (fun a w h=>.inl h) (RInvP.step hR.refl hR.trans hB hst' hin (fun o ho=>hs i o hin ho) hI hi)
      · have hbefore:∀ j,j < i → listed.getD j false = true:=fun j hj=>sufB.before hsuf hI.closed ho hin hall (i - j - 1) j (by omega)
        have hi_n:i = n:=by
          rcases Nat.lt_or_ge n i with h1 | h1
          · have:=hbefore n h1
            rw [hI.late n (Nat.le_refl n)] at this
            cases this
          · omega
        subst hi_n
        have hw:=hfin hI (fun j hj _=>hbefore j hj)
        refine wpOp_mono (fun a w h=>.inr ⟨i + 1,by omega,h⟩) (e_L hI.size (fun j=>⟨fun hj=>?_,fun hj=>hbefore j hj.1⟩) hw ho)
        constructor
        · rcases Nat.lt_or_ge j i with h1 | h1
          · exact h1
          · rw [hI.late j h1] at hj;cases hj
        · rcases Nat.lt_or_ge j l.toArray.size with h1 | h1
          · exact h1
          · have:listed.size ≤ j:=by rw [hI.size];exact h1
            simp [Array.getD_eq_getD_getElem?,Nat.not_lt.2 this] at hj
    · have hil:i < l.toArray.size:=by
        rcases Nat.lt_or_ge i l.toArray.size with h | h
        · exact h
        · rw [Array.getElem?_eq_none h] at ho;cases ho
      have hki:k ≤ i:=by
        rcases Nat.lt_or_ge i k with h1 | h1
        · have:=(hk i).2 ⟨h1,hil⟩
          rw [(unlisted_lt hi).2] at this
          cases this
        · exact h1
      have:i = k:=by
        rcases Nat.lt_or_ge k i with h1 | h1
        · have hcl:d_B l.toArray listed:=fun j p hj hp e he hb=>(hk _).2 (by
            have:=(hk j).1 hj
            have:=hac j p hp e he hb
            omega)
          have:=(hk k).1 (sufB.before hsuf hcl ho (by omega) hall (i - k - 1) k (by omega))
          omega
        · omega
      subst this
      exact wpOp_mono (fun a w h=>.inr ⟨i + 1,by omega,h⟩) (e_L hsz hk hw ho)
  · rcases hI with hI | ⟨k,hnk,hsz,hk,hw⟩
    · have hall:=c_Q hI.size hac hr
      have hw:=hfin hI (fun i _ hi=>hall i hi)
      have:l.toArray.toList.drop n = []:=by
        rw [List.drop_eq_nil_iff]
        rcases Nat.lt_or_ge n l.toArray.size with h1 | h1
        · have:=hall n h1
          rw [hI.late n (Nat.le_refl n)] at this
          cases this
        · simpa using h1
      rw [this] at hw
      exact hw
    · have hall:=c_Q hsz hac hr
      have:l.toArray.toList.drop k = []:=by
        rw [List.drop_eq_nil_iff]
        rcases Nat.lt_or_ge k l.toArray.size with h1 | h1
        · have:=(hk k).1 (hall k h1)
          omega
        · simpa using h1
      rw [this] at hw
      exact hw
  · refine Nat.le_trans (List.length_filter_le _ _) (by simp)
  · have hf:∀ i,(Array.replicate l.toArray.size false).getD i false = false:=fun i=>by
      rcases Nat.lt_or_ge i l.length with hi | hi
      · simp [Array.getD_eq_getD_getElem?,hi]
      · simp [Array.getD_eq_getD_getElem?,Nat.not_lt.2 hi]
    refine .inl ⟨by simp,rfl,rfl,hR.drawn _,fun _ _=>rfl,fun i o d hl=>?_,fun i o hl=>?_,fun i _=>hf i,fun i o hl=>?_⟩
    · rw [hf i] at hl;cases hl
    · rw [hf i] at hl;cases hl
    · rw [hf i] at hl;cases hl
theorem c_l {K:Nat → Prop} {id:Nat} {l:List Oper} (n:Nat) (nxt:List Nat) (hR:Rel K R) (Fs:List (Value → World → Prop)) (D:List (List (Nat × Nat))) (hm:P.follows .mixedOrders = true) (hB:a_S l.toArray a0.tmps.size = true) (hsel:Region.noSelect l.toArray = true) (hsuf:sufB l.toArray n nxt = true)
    (hD:b_N (b_t (l.take n).toArray) l.toArray (l.take n) D = true) (hlen:Fs.length = (l.take n).length) (hst:StabL R Fs) (h:RunAll R P l.toArray a0 w0 Q Fs 0 (l.take n) D) (hend:∀ W,R w0 W → EndE W (fun a=>wpList P l.toArray Q (l.drop n) a W) Fs (l.take n) a0):(Code.region id l.toArray true).wp P Q a0 w0:=wp_region_any hm (b_m n nxt hR Fs D hm hB hsel hsuf hD hlen hst h hend)
end
structure Sto2 (t:GT) (T:TypeId) (K:Nat → Prop) (g:Nat) (xo xn:PT t) (w w':World):Prop where
  os:w'.os = w.os
  tape:w'.tape = w.tape
  output:w'.output = w.output
  size:w.heap.size ≤ w'.heap.size
  block:∀ k,k < w.heap.size → k ≠ g → w'.heap[k]? = w.heap[k]?
  two:Bx t T w K g xo ∨ Bx t T w K g xn → Bx t T w' K g xo ∨ Bx t T w' K g xn
  new:Bx t T w K g xn → Bx t T w' K g xn
section
variable {w0 w w':World} {L:List (Option Nat)} {K:Nat → Prop} {n b:Nat} {t:GT}
end
end Go.Proofs.YtlfgpmcohfaabaaGreatDoor
namespace Go.Proofs.YtlfgpmcohfaabaaGreatDoor
open Go.RowKit
def Fine:(t:GT) → PT t → Prop
  | .int k,x=>InR k x
  | .bool,_=>True
  | .str,x=>Byt x ∧ x.length ≤ 9223372036854775807
  | .sl e,x=>x.xs.length ≤ 9223372036854775807 ∧ (∀ k,x.cap = some k → x.xs.length ≤ k ∧ k ≤ 9223372036854775807) ∧ ∀ y ∈ x.xs,Fine e y
  | .st f,x=>Fine f x
  | .pair a b,x=>Fine a x.1 ∧ Fine b x.2
  | .arr n e,x=>x.length = n ∧ ∀ y ∈ x,Fine e y
  | .raw,_=>True
theorem RepCs.fine {w:World} {K:Nat → Prop}:∀ {t:GT} {cs} {x:PT t},RepCs t w K cs x → Fine t x
  | .int _,_,_,h=>h.2
  | .bool,_,_,h=>trivial
  | .str,_,_,h=>h.2
  | .sl e,_,x,⟨A,n,c,h0,h1,h2,h3,h4,h5⟩=>⟨by omega,fun k hk=>by have:=h4 k hk;omega,fun y hy=>by
      rcases h5 with h6 | ⟨b,off,_,_,_,h6⟩
      · rw [h6] at hy;cases hy
      · obtain ⟨j,hj⟩:=List.getElem?_of_mem hy
        obtain ⟨cs,h7,_⟩:=h6 j y hj
        exact RepCs.fine (t:=e) h7⟩
  | .st f,_,_,h=>RepCs.fine (t:=f) h
  | .pair a b,_,_,⟨c1,c2,h,h1,h2⟩=>⟨RepCs.fine (t:=a) h1,RepCs.fine (t:=b) h2⟩
  | .arr n e,_,x,⟨hx,css,h,hl,hr⟩=>⟨hx,fun y hy=>by
      obtain ⟨j,hj⟩:=List.getElem?_of_mem hy
      have hlt:j < x.length:=(List.getElem?_eq_some_iff.1 hj).1
      exact RepCs.fine (t:=e) (hr j _ y (List.getElem?_eq_getElem (by omega)) hj)⟩
  | .raw,_,_,h=>trivial
theorem RepV.fine {w:World} {K:Nat → Prop} {t:GT} {v:Value} {x:PT t} (h:RepV t w K v x):Fine t x:=by
  obtain ⟨cs,h1,_⟩:=h
  exact h1.fine
end Go.Proofs.YtlfgpmcohfaabaaGreatDoor
namespace Go.Proofs.YtlfgpmcohfaabaaGreatDoor
open Go.RowKit
section
variable {w:World} {K:Nat → Prop} {b n:Nat} {f:GT} {T:TypeId} {L:List (Option Nat)}
theorem RepV.rawEq {v x:Value} (h:RepV .raw w K v x):v = x:=by
  obtain ⟨cs,⟨rfl,_⟩,rfl⟩:=h
  rfl
theorem Ow.raw {e:GT} {E:TypeId} {xs:List (PT e)} {c:Option Nat} {v:Value} (h:Ow e E w n K v xs c):∀ {K':Nat → Prop},RepV .raw w K' v v:=by
  obtain ⟨cs,h1,h2,h3⟩:=h
  rcases h1.2 with ⟨rfl,hcs⟩ | ⟨g,cap,cur,rfl,hb⟩
  · exact ⟨[_],⟨rfl,rfl⟩,rfl⟩
  · exact ⟨[_],⟨rfl,rfl⟩,rfl⟩
end
end Go.Proofs.YtlfgpmcohfaabaaGreatDoor
namespace Go.Proofs.YtlfgpmcohfaabaaGreatDoor
open Go.RowKit
structure NewO (w w':World) (o:Option Nat):Prop where
  below:Below w.heap.size w w'
  ge:∀ b,o = some b → w.heap.size ≤ b
  lt:∀ b,o = some b → b < w'.heap.size
section
variable {w0 w w':World} {L:List (Option Nat)} {K:Nat → Prop} {n b:Nat} {t:GT} {o:Option Nat}
theorem Kx.newO {c:Nat} (hN:NewO w w' o) (hc:c < w.heap.size) (hk:Kx K n L c):Kx K n (o :: L) c:=⟨hk.1,fun hm=>by
  rcases List.mem_cons.1 hm with e | hm
  · have:=hN.ge c e.symm;omega
  · exact hk.2 hm⟩
theorem RepV.newO {u:Value} {x:PT t} (h:RepV t w (Kx K n L) u x) (hN:NewO w w' o):RepV t w' (Kx K n (o :: L)) u x:=h.keep (Keeps.below hN.below) fun c hc hk=>Kx.newO hN hc hk
theorem Bx.newO {T:TypeId} {x:PT t} (h:Bx t T w (Kx K n L) b x) (hN:NewO w w' o):Bx t T w' (Kx K n (o :: L)) b x:=by
  have hl:=h.lt
  obtain ⟨cs,h1,h2⟩:=h
  exact ⟨cs,(hN.below.block b hl).trans h1,h2.keep (Keeps.below hN.below) fun d hc hk=>Kx.newO hN hc hk⟩
theorem Wd.newO (h:Wd w0 w L) (hN:NewO w w' o):Wd w0 w' (o :: L):=by
  have hs:=hN.below.size
  refine ⟨h.below.trans (hN.below.mono h.below.size),fun c hm=>?_,List.pairwise_cons.2 ⟨fun x hx=>?_,h.dis⟩⟩
  · rcases List.mem_cons.1 hm with e | hm
    · have:=hN.ge c e.symm;have:=hN.lt c e.symm;have:=h.below.size;exact ⟨by omega,by omega⟩
    · have:=h.own c hm;exact ⟨this.1,by omega⟩
  · cases ho:o with
    | none=>exact .inl rfl
    | some b =>
      refine .inr fun e=>?_
      have:=(h.own b (e ▸ hx)).2
      have:=hN.ge b ho
      omega
theorem d_C {e:GT} {E:TypeId} {v:Value} {xs:List (PT e)} {c:Option Nat} {m:Nat} {K':Nat → Prop} (h:Ow e E w' m K' v xs c) (hm:w.heap.size ≤ m) (hb:Below w.heap.size w w'):NewO w w' v.ownBlock:=by
  obtain ⟨cs,h1,_⟩:=h
  exact ⟨hb,fun b hv=>Nat.le_trans hm (h1.lt b hv).1,fun b hv=>(h1.lt b hv).2⟩
theorem Kx.backO {c:Nat} (hW:Wd w0 w L) (hk:Kx (Kx K w0.heap.size L) w.heap.size [o] c):Kx K w0.heap.size (o :: L) c:=by
  obtain ⟨h1,h2⟩:=hk
  have h2':some c ≠ o:=fun e=>h2 (by rw [e];exact List.mem_cons_self ..)
  rcases h1 with h1 | h1
  · exact ⟨h1.1,fun hm=>by
      rcases List.mem_cons.1 hm with e | hm
      · exact h2' e
      · exact h1.2 hm⟩
  · refine ⟨.inr (by have:=hW.below.size;omega),fun hm=>?_⟩
    rcases List.mem_cons.1 hm with e | hm
    · exact h2' e
    · have:=(hW.own c hm).2;omega
theorem RepV.backO {u:Value} {x:PT t} (h:RepV t w' (Kx (Kx K w0.heap.size L) w.heap.size [o]) u x) (hW:Wd w0 w L):RepV t w' (Kx K w0.heap.size (o :: L)) u x:=h.keep (Keeps.refl _ _) fun c _ hk=>Kx.backO hW hk
theorem Ow.backO {e:GT} {E:TypeId} {v:Value} {xs:List (PT e)} {c:Option Nat} (h:Ow e E w' w.heap.size (Kx (Kx K w0.heap.size L) w.heap.size [o]) v xs c) (hW:Wd w0 w L):Ow e E w' w0.heap.size (Kx K w0.heap.size (o :: L)) v xs c:=by
  obtain ⟨cs,h1,h2,h3⟩:=h
  refine ⟨cs,⟨h1.1,?_⟩,h2.keep (Keeps.refl _ _) fun c _ hk=>Kx.backO hW hk,h3⟩
  rcases h1.2 with h4 | ⟨g,cap,cur,e1,e2,e3⟩
  · exact .inl h4
  · exact .inr ⟨g,cap,cur,e1,by have:=hW.below.size;omega,e3⟩
theorem Ow.lessO {e:GT} {E:TypeId} {v:Value} {xs:List (PT e)} {c:Option Nat} (h:Ow e E w n (Kx K n L) v xs c) (i:Nat) (hi:L[i]? = some o):Ow e E w n (Kx K n [o]) v xs c:=h.less (List.singleton_sublist.2 (List.mem_of_getElem? hi))
end
section
variable {ds:List Deferred} {N:Nat} {a:Act} {l:List (Nat × Value)} {w w0:World} {P:Program} {ops:Array Oper} {Q:Exit → Act → World → Prop} {rest:List Oper} {o:Oper} {Kont:Act → World → Prop} {d:Nat} {K:Nat → Prop} {n:Nat} {L:List (Option Nat)}
end
end Go.Proofs.YtlfgpmcohfaabaaGreatDoor
namespace Go.Proofs.YtlfgpmcohfaabaaGreatDoor
open Go.RowKit
def Br (g:GT) (w:World) (K:Nat → Prop) (p:Addr) (x:PT g):Prop:=RepAt g w K p x ∧ p.block < w.heap.size
section
variable {w0 w w':World} {L:List (Option Nat)} {K:Nat → Prop} {n b:Nat} {g t:GT} {p:Addr}
theorem Br.now {x:PT g} (h:Br g w0 K p x) (W:Wd w0 w L):RepAt g w (Kx K w0.heap.size L) p x :=
  h.1.keep (Keeps.below W.below) (fun b hb hK=>⟨.inl hK,fun hm=>by have:=(W.own b hm).1;omega⟩) fun i _=>(Keeps.below (K:=fun _=>True) W.below).2 ⟨p.block,p.off + i,.none⟩ h.2 trivial
theorem Br.again {x:PT g} (h:Br g w0 K p x) (W:Wd w0 w L):Br g w (Kx K w0.heap.size L) p x:=⟨h.now W,by have:=W.below.size;have:=h.2;omega⟩
theorem Bx.br {T:TypeId} {x:PT g} (h:Bx g T w K b x):Br g w K ⟨b,0,.none⟩ x:=⟨h.at_,h.lt⟩
structure Mk (n:Nat) (L:List (Option Nat)) (w w':World):Prop where
  os:w'.os = w.os
  tape:w'.tape = w.tape
  output:w'.output = w.output
  size:w.heap.size ≤ w'.heap.size
  old:∀ k,k < w.heap.size → (k < n ∨ some k ∈ L) → w'.heap[k]? = w.heap[k]?
  cells:∀ p:Addr,p.block < w.heap.size → w'.cell? p = w.cell? p
end
section
variable {ds:List Deferred} {N:Nat} {a:Act} {l:List (Nat × Value)} {w w0:World} {P:Program} {ops:Array Oper} {Q:Exit → Act → World → Prop} {rest:List Oper} {o:Oper} {Kont:Act → World → Prop} {d:Nat} {K:Nat → Prop} {n:Nat} {L:List (Option Nat)}
end
section
variable {ds:List Deferred} {N:Nat} {a:Act} {l:List (Nat × Value)} {w w0:World} {P:Program} {ops:Array Oper} {Q:Exit → Act → World → Prop} {rest:List Oper} {o:Oper} {Kont:Act → World → Prop} {d:Nat} {K:Nat → Prop} {n:Nat} {L:List (Option Nat)}
end
end Go.Proofs.YtlfgpmcohfaabaaGreatDoor
namespace Go.Proofs.YtlfgpmcohfaabaaGreatDoor
open Go.RowKit
abbrev GW:=(Nat → Option (Option Nat)) × World
structure RInvG (R:GW → GW → Prop) (ops:Array Oper) (n:Nat) (F:Nat → Value → GW → Prop) (a0:Act) (g0:GW) (listed:Array Bool) (a:Act) (g:GW):Prop where
  size:listed.size = ops.size
  tsize:a.tmps.size = a0.tmps.size
  defers:a.defers = a0.defers
  below:R g0 g
  keep:∀ t,(∀ (i:Nat) (o:Oper),i < n → ops[i]? = some o → o.dst ≠ some t) → a.tmps[t]? = a0.tmps[t]?
  done:∀ (i:Nat) (o:Oper) (d:Nat),listed.getD i false = true → ops[i]? = some o → o.dst = some d → ∃ v,a.tmps[d]? = some v ∧ F i v g
  doneN:∀ (i:Nat) (o:Oper),listed.getD i false = true → ops[i]? = some o → o.dst = none → F i undef g
  late:∀ i,n ≤ i → listed.getD i false = false
  closed:d_B ops listed
  free:∀ i,listed.getD i false = false → g.1 i = none
section
variable {R:GW → GW → Prop} {P:Program} {ops:Array Oper} {F:Nat → Value → GW → Prop} {a0:Act} {g0:GW} {Q:Exit → Act → World → Prop} {n:Nat}
end
end Go.Proofs.YtlfgpmcohfaabaaGreatDoor
namespace Go.Proofs.YtlfgpmcohfaabaaGreatDoor
open Go.RowKit
def lm (I:List Nat) (L:List (Option Nat)) (M:Nat → Option (Option Nat)):List (Option Nat):=I.map (fun i=>(M i).join) ++ L
section
variable {w0 w w':World} {L:List (Option Nat)} {K:Nat → Prop} {n b:Nat} {t:GT} {I:List Nat} {M:Nat → Option (Option Nat)}
structure Gr (w0:World) (I:List Nat) (L:List (Option Nat)) (g g':GW):Prop where
  below:Below g.2.heap.size g.2 g'.2
  same:∀ j o,g.1 j = some o → g'.1 j = some o
  new:∀ j b,g.1 j = none → g'.1 j = some (some b) → g.2.heap.size ≤ b
  wd:Wd w0 g.2 (lm I L g.1) → Wd w0 g'.2 (lm I L g'.1)
theorem NewB.newO (h:NewB w w' b):NewO w w' (some b):=⟨h.below,fun c e=>by obtain rfl:=Option.some.inj e;exact h.ge,fun c e=>by obtain rfl:=Option.some.inj e;exact h.lt⟩
end
section
variable {w0:World} {I:List Nat} {L:List (Option Nat)} {K:Nat → Prop} {n:Nat} {t:GT}
variable {ds:List Deferred} {N d i:Nat} {A a0:Act} {l:List (Nat × Value)} {v:Value} {f:Value → GW → Prop} {w w':World} {Q:Exit → Act → World → Prop} {M:Nat → Option (Option Nat)} {P:Program}
end
end Go.Proofs.YtlfgpmcohfaabaaGreatDoor
namespace Go.Proofs.YtlfgpmcohfaabaaGreatDoor
open Go.RowKit
section
variable {ds:List Deferred} {N:Nat} {a:Act} {l:List (Nat × Value)} {w w0:World} {P:Program} {ops:Array Oper} {Q:Exit → Act → World → Prop} {rest:List Oper} {o:Oper} {Kont:Act → World → Prop} {d:Nat} {K:Nat → Prop} {n:Nat} {L:List (Option Nat)}
theorem e_k (S:StD ds N a l) (W:Wd w0 w L) {T E0:TypeId} {len:Nat} {parts:Array (Nat × Operand)} {e:GT} {vs:List Value} {xs:List (PT e)} (ho:o.op = .buildSlice T len parts) (ht:tiQ P (.sl e) false T [] 0 = true) (hE0:P.underlying T = some (.slice E0)) (hp:e.isPair = false) (hsz:Nat.blt 0 (len * e.sz) = true) (hzero:zeroB P T = true) (hd:o.dst = some d) (hN:Nat.blt d N = true)
    (hv:evs l (parts.toList.map (·.2)) = some vs) (hparts:parts.toList.map (·.1) = List.range len) (hsmall:Nat.ble (len * e.sz) 16777216 = true) (R:RepVs e w (Kx K w0.heap.size L) vs xs)
    (k:∀ a' w' b,NewB w w' b → Ow e E0 w' w0.heap.size (Kx K w0.heap.size (some b :: L)) (.slice (some ⟨b,0,.none⟩) len len) xs (some len) → StD ds N a' ((d,.slice (some ⟨b,0,.none⟩) len len) :: l) → Kont a' w'):o.wp P a w Kont Q:=by
  obtain ⟨h1,h2,h3⟩:=R.css hp
  obtain ⟨E,hE,htE⟩:=b_u ht
  obtain rfl:E0 = E:=by rw [hE0] at hE;injection hE with h;injection h
  obtain ⟨ie,hie,hse⟩:=a_G htE
  have hvl:vs.length = len:=by
    have hm:=S.evs hv
    have:=congrArg List.length hparts
    rw [← hm]
    simpa using this
  obtain ⟨z,hz⟩:∃ z,ie.zero = some z:=by
    unfold zeroB at hzero
    rw [hE] at hzero
    simp only [hie,Option.any_some] at hzero
    exact Option.isSome_iff_exists.1 hzero
  have hpl:(parts.map fun (p:Nat × Operand)=>(p.1,a.eval p.2)).toList = b_6 0 vs:=by
    have hm:=S.evs hv
    have key:∀ (ps:List (Nat × Operand)) (us:List Value) (i:Nat),ps.map (·.1) = List.range' i ps.length → (ps.map (·.2)).map a.eval = us → ps.map (fun p=>(p.1,a.eval p.2)) = b_6 i us:=by
      intro ps
      induction ps with
      | nil=>intro us i _ h;simp at h;subst h;rfl
      | cons p ps ih =>
        intro us i h1 h2
        rw [List.map_cons,List.length_cons,List.range'_succ] at h1
        injection h1 with h1a h1b
        rw [List.map_cons,List.map_cons] at h2
        subst h2
        rw [List.map_cons,h1a]
        unfold b_6
        rw [ih _ (i + 1) h1b rfl]
    rw [Array.toList_map]
    refine key parts.toList vs 0 ?_ hm
    rw [hparts,List.range_eq_range']
    have:=congrArg List.length hparts
    simp at this
    simp [this]
  have hfill:Instr.fill (fun i=>some (i * ie.size,ie.size)) ((Array.range (len * ie.size)).map (z.cells[· % z.cells.size]!)) (parts.map fun (p:Nat × Operand)=>(p.1,a.eval p.2)).toList = some (vs.map fun v=>v.cells.toList).flatten.toArray:=by
    rw [hpl]
    have:=c_V ie.size vs 0 [] ((Array.range (len * ie.size)).map (z.cells[· % z.cells.size]!)).toList (fun v hv=>by rw [hse];exact h2 v hv) (by simp) (by simp [hvl])
    simpa only [List.nil_append,Array.toArray_toList] using this
  have hrun:=run_bsl (P:=P) (w:=w) T E0 len (parts.map fun (p:Nat × Operand)=>(p.1,a.eval p.2)) _ ie z hE hie hz (by rw [hse];simpa [Nat.ble_eq,Nat.not_lt] using hsmall) (by rw [hse];simp [Nat.blt_eq] at hsz;omega) hfill
  have hle:len ≤ 16777216:=by
    simp only [Nat.ble_eq,Nat.blt_eq] at hsmall hsz
    have hz:0 < e.sz:=Nat.pos_of_ne_zero fun h=>by rw [h] at hsz;simp at hsz
    have:=Nat.le_mul_of_pos_right len hz
    omega
  have hnew:=a_R w (.cells (vs.map fun v=>v.cells.toList).flatten.toArray E0)
  have harr:=RepCs.arrOf (e:=e) (w:=w) (K:=Kx K w0.heap.size L) (css:=vs.map fun v=>v.cells.toList) (by simp [h1]) h3
  have hxl:xs.length = len:=by omega
  have hfl:(vs.map fun v=>v.cells.toList).flatten.length = len * e.sz:=by
    have:=harr.len
    rw [GT.sz,hxl] at this
    exact this
  refine a_w S (v:=.slice (some ⟨w.heap.size,0,.none⟩) len len) (w':=w.alloc (.cells (vs.map fun v=>v.cells.toList).flatten.toArray E0)) hd hN ?_ fun a'=>k a' _ w.heap.size hnew ⟨(vs.map fun v=>v.cells.toList).flatten,⟨by rw [hxl];exact hfl,.inr ⟨w.heap.size,len,_,by rw [hxl],W.below.size,heap_alloc_new w _,by omega,by simp only [maxLen];omega,by simpa using hfl,?_⟩⟩,?_,fun q hq=>by obtain rfl:=Option.some.inj hq;exact ⟨_,_,rfl⟩⟩
  · have hpm:parts.map (fun (x:Nat × Operand)=>match x with | (i,x)=>(i,a.eval x)) = parts.map fun (p:Nat × Operand)=>(p.1,a.eval p.2):=rfl
    simp only [execOp,ho]
    simp [hrun,hpm]
  · rw [List.toList_toArray,hxl,← hfl,List.take_length]
  · exact harr.keep (Keeps.below hnew.below) fun c hc hk=>Kx.newO hnew.newO hc hk
end
end Go.Proofs.YtlfgpmcohfaabaaGreatDoor
namespace Go.Proofs.YtlfgpmcohfaabaaGreatDoor
open Go.RowKit
def Fr (r:Option Nat):Fence:={ Fence.wide with round:=r }
def b_C (o:Oper):Bool:=match o.op with | .defer _=>false | _=>true
def CI (r:Option Nat) (P:Program) (c:Code) (Q:Exit → Act → World → Prop) (a:Act) (w:World):Prop:=¬ LetsOut Q → c.wpIn (Fr r) 0 P Q a w
def LI (r:Option Nat) (P:Program) (ops:Array Oper) (Q:Exit → Act → World → Prop) (l:List Oper) (a:Act) (w:World):Prop:=¬ LetsOut Q → wpListIn (Fr r) 0 P ops Q l a w
theorem e_M {r:Option Nat} {ρ:Operand → Value} {o:Oper} (h:b_C o = true):o.semAt (Fr r).round ρ = execOp ρ o:=by
  cases r with
  | none=>exact Oper.semAt_none ρ o
  | some l =>
    refine Oper.semAt_some l ρ o fun c hc=>?_
    unfold b_C at h
    rw [hc] at h
    cases h
section
variable {r:Option Nat} {ds:List Deferred} {N:Nat} {a:Act} {l:List (Nat × Value)} {w w0:World} {P:Program} {ops:Array Oper} {Q:Exit → Act → World → Prop} {rest:List Oper} {o:Oper} {Kont K:Act → World → Prop} {d:Nat}
theorem rowsIn_of {row:String} {args:Array Value} {R:Value → World → Prop} (h:Rows P row args w R):RowsIn (Fr r) 0 P row args w R:=by
  intro c cs _
  obtain ⟨v,w',hr,hs⟩:=h c cs
  exact ⟨v,w',hr,stepsIn_wide.2 hs⟩
theorem d_p {f:FuncId} {args:Array Value} {R:Ending → World → Prop} (h:Calls P f args w R):CallsIn (Fr r) 0 P f args w R:=callsIn_wide.2 h
theorem wpIn_of (hd:b_C o = true) (h:o.wp P a w K Q):o.wpIn (Fr r) 0 P a w K Q:=by
  refine ⟨fun _ _=>trivial,?_⟩
  rw [e_M hd]
  unfold Oper.wp at h
  generalize (execOp a.eval o).run P w = q at *
  cases q with
  | ok n w' =>
    cases n <;> simp only [Oper.upon,Oper.uponIn] at h ⊢
    case value=>exact h
    case skip=>exact h
    case defer=>exact h
    case enter=>exact ⟨fun h=>by simp [Fr,Fence.wide] at h,d_p h⟩
    case row=>exact ⟨fun h=>by simp [Fr,Fence.wide] at h,rowsIn_of h⟩
  | halt x w'=>cases x <;> simp only [Oper.upon,Oper.uponIn] at h ⊢ <;> exact h
theorem b_g {y:Act → World → Prop} (hQ:¬ LetsOut Q):¬ LetsOut (Exit.then y Q):=fun ⟨a,w,h⟩=>hQ ⟨a,w,h⟩
theorem e_l {id:Nat} (hQ:¬ LetsOut Q):¬ LetsOut (Exit.inBlock id Q):=fun ⟨a,w,h⟩=>hQ ⟨a,w,h⟩
namespace R
theorem wp_seq {x y:Code} (h:CI r P x (Exit.then (CI r P y Q) Q) a w):CI r P (.seq x y) Q a w:=fun hQ =>
  wpIn_seq (wpIn_mono (h (b_g hQ)) fun e a w he=>by
    cases e with
    | normal=>exact he hQ
    | _=>exact he)
theorem wp_skip (h:Q .normal a w):CI r P .skip Q a w:=fun _=>wpIn_skip h
theorem wp_ret (h:Q .ret a w):CI r P .ret Q a w:=fun _=>wpIn_ret h
theorem wp_exit {id:Nat} (h:Q (.exit id) a w):CI r P (.exit id) Q a w:=fun _=>wpIn_exit h
theorem wp_block {id:Nat} {c:Code} (h:CI r P c (Exit.inBlock id Q) a w):CI r P (.block id c) Q a w:=fun hQ=>wpIn_block (h (e_l hQ))
theorem wp_cond_split {c:Operand} {x y:Code} {t:Bool} (hc:a.eval c = .bool t) (ht:t = true → CI r P x Q a w) (hf:t = false → CI r P y Q a w):CI r P (.cond c x y) Q a w:=fun hQ =>
  wpIn_cond_split hc (fun h=>ht h hQ) (fun h=>hf h hQ)
theorem a_j {x:Code} (M:Act → World → Prop) (h1:CI r P x (Exit.then M Q) a w) (h2:∀ a' w',M a' w' → Q .normal a' w'):CI r P x Q a w:=fun hQ =>
  wpIn_mono (h1 (b_g hQ)) fun e a' w' h=>by
    cases e with
    | normal=>exact h2 a' w' h
    | _=>exact h
theorem a_t {c:Code} (I:Nat → Act → World → Prop) (n:Nat) (h0:I n a w) (round:∀ n a w,I n a w → ∃ m,n = m + 1 ∧ CI r P c (Exit.then (I m) Q) a w):CI r P (.loop c) Q a w:=by
  intro hQ
  refine wpIn_loop (fun a w=>∃ n,I n a w) (fun a w=>leastOf (fun n=>I n a w)) ⟨n,h0⟩ fun a w hI=>?_
  obtain ⟨m,hm,hr⟩:=round _ a w (leastOf_spec hI).1
  refine wpIn_mono (hr (b_g hQ)) fun e a' w' hq=>?_
  cases e with
  | normal=>exact show (∃ n,I n a' w') ∧ leastOf (fun n=>I n a' w') < leastOf (fun n=>I n a w) from (by
    have hq:I m a' w':=hq
    refine ⟨⟨m,hq⟩,?_⟩
    have:=(leastOf_spec (p:=fun n=>I n a' w') ⟨m,hq⟩).2 m hq
    omega)
  | _=>exact hq
theorem wp_region_lit {id:Nat} {l:List Oper} (h:LI r P l.toArray Q l a w):CI r P (.region id l.toArray false) Q a w:=fun hQ=>wpIn_region_lit (h hQ)
theorem wpList_nil (h:Q .normal a w):LI r P ops Q [] a w:=fun _=>h
theorem w_go (S:StD ds N a l) (hg:gOk ops l o = some true) (h:o.wp P a w (LI r P ops Q rest) Q) (hd:b_C o = true:=by rfl):LI r P ops Q (o :: rest) a w:=by
  intro hQ
  unfold wpListIn
  rw [if_pos (gOk.wanted S hg)]
  exact Oper.wpIn_mono (fun a w h=>h hQ) (wpIn_of hd h)
theorem d_S (S:StD ds N a l) (hg:gOk ops l o = some false) (h:LI r P ops Q rest (a.put o.dst undef) w):LI r P ops Q (o :: rest) a w:=by
  intro hQ
  unfold wpListIn
  rw [if_neg (by rw [gOk.wanted S hg];exact Bool.false_ne_true)]
  exact ⟨fun _ _=>trivial,h hQ⟩
theorem b_l (tys:List (TypeId × GT)) (ht:tysOk P tys = true):∀ (l1:List Oper) {l2:List Oper} {a:Act} {l l':List (Nat × Value)},StD ds N a l → a_o tys ops N l1 l = some l' → (∀ a',StD ds N a' l' → LI r P ops Q l2 a' w) → LI r P ops Q (l1 ++ l2) a w
  | [],l2,a,l,l',S,h,k=>by
    simp only [a_o,Option.some.injEq] at h
    subst h
    exact k a S
  | o :: l1,l2,a,l,l',S,h,k=>by
    unfold a_o at h
    split at h
    · rename_i d hg hd
      split at h
      · rename_i v hv
        split at h
        · rename_i hN
          exact w_go S hg (a_w S hd hN (d_y S o tys ht hv) fun a' S'=>b_l tys ht l1 S' h k) (by
            unfold b_C
            split
            · rename_i c hc;rw [hc] at hv;simp [pureOp] at hv
            · rfl)
        · cases h
      · cases h
    · rename_i d hg hd
      split at h
      · rename_i hN
        refine d_S S hg ?_
        rw [hd]
        exact b_l tys ht l1 (S.put (by simpa [Nat.blt_eq] using hN) undef) h k
      · cases h
    · rename_i hg hd
      refine d_S S hg ?_
      rw [hd]
      exact b_l tys ht l1 S h k
    · cases h
theorem b_a (S:StD ds N a l) (tys:List (TypeId × GT)) (ht:tysOk P tys = true) (m:Nat) {l0:List Oper} {l':List (Nat × Value)} (h:a_o tys ops N (l0.take m) l = some l')
    (k:∀ a',StD ds N a' l' → LI r P ops Q (l0.drop m) a' w):LI r P ops Q l0 a w:=by
  rw [← List.take_append_drop m l0]
  exact b_l tys ht _ S h k
theorem cut_:∀ (l1:List Oper) {l2:List Oper} {a:Act} {w:World} (M:Act → World → Prop),LI r P ops (Exit.then M Q) l1 a w → (∀ a' w',M a' w' → LI r P ops Q l2 a' w') → LI r P ops Q (l1 ++ l2) a w
  | [],l2,a,w,M,h1,h2=>fun hQ=>h2 a w (h1 (b_g hQ)) hQ
  | o :: l1,l2,a,w,M,h1,h2=>by
    intro hQ
    have h1:=h1 (b_g hQ)
    have ih:=fun a w (h:wpListIn (Fr r) 0 P ops (Exit.then M Q) l1 a w)=>cut_ l1 (l2:=l2) (a:=a) (w:=w) M (fun _=>h) h2 hQ
    show wpListIn (Fr r) 0 P ops Q (o :: (l1 ++ l2)) a w
    unfold wpListIn at h1 ⊢
    split
    · rename_i hw
      rw [if_pos hw] at h1
      refine ⟨fun _ _=>trivial,?_⟩
      have h1:=h1.2
      generalize (o.semAt (Fr r).round a.eval).run P w = q at *
      cases q with
      | ok n w' =>
        cases n <;> simp only [Oper.uponIn] at h1 ⊢ <;> try exact ih _ _ h1
        · refine ⟨h1.1,CallsIn.mono h1.2 fun e w'' h=>?_⟩
          cases e with
          | returned v=>exact ih _ _ h
          | panicked c=>exact h
          | outgrown=>obtain ⟨a0,w0,h0⟩:=h;exact ⟨a0,w0,h0⟩
        · refine ⟨h1.1,RoundIn.mono h1.2 fun e w'' h=>?_⟩
          cases e with
          | returned v=>exact ih _ _ h
          | panicked c=>exact h
          | outgrown=>obtain ⟨a0,w0,h0⟩:=h;exact ⟨a0,w0,h0⟩
        · exact ⟨h1.1,RowsIn.mono h1.2 fun v w'' h=>ih _ _ h⟩
      | halt x w' =>
        cases x <;> simp only [Oper.uponIn] at h1 ⊢
        exact h1
    · rename_i hw
      rw [if_neg hw] at h1
      exact ⟨fun _ _=>trivial,ih _ _ h1.2⟩
theorem seg (m:Nat) (M:Act → World → Prop) {l0:List Oper} (h1:LI r P ops (Exit.then M Q) (l0.take m) a w) (h2:∀ a' w',M a' w' → LI r P ops Q (l0.drop m) a' w'):LI r P ops Q l0 a w:=by
  rw [← List.take_append_drop m l0]
  exact cut_ _ M h1 h2
theorem wpAny_in {md:Region.Mode} (hQ:¬ LetsOut Q) (hd:∀ (i:Nat) o,ops[i]? = some o → b_C o = true):∀ (fuel:Nat) (listed:Array Bool) (a:Act) (w:World),wpAny P md ops Q fuel listed a w → wpAnyIn (Fr r) 0 P md ops Q fuel listed a w
  | 0,listed,a,w,h=>h
  | fuel + 1,listed,a,w,h=>by
    refine ⟨h.1,fun i hi=>?_⟩
    have h2:=h.2 i hi
    unfold wpOp at h2
    unfold wpOpIn
    cases ho:ops[i]? with
    | none=>rw [ho] at h2;exact wpAny_in hQ hd fuel _ a w h2
    | some o =>
      rw [ho] at h2
      simp only at h2 ⊢
      by_cases hw:Region.wanted o (yielded ops a.tmps) = true
      · rw [if_pos hw] at h2 ⊢
        rcases h2 with h2 | ⟨_,h3⟩
        · exact Oper.wpIn_mono (fun a w h=>wpAny_in hQ hd fuel _ a w h) (wpIn_of (hd i o ho) h2)
        · exact absurd h3 hQ
      · rw [if_neg hw] at h2 ⊢
        exact ⟨fun _ _=>trivial,wpAny_in hQ hd fuel _ _ w h2⟩
theorem drawn {id:Nat} {l:List Oper} (hm:P.follows .mixedOrders = true) (hd:l.all b_C = true) (h:WAny P l Q a w):CI r P (.region id l.toArray true) Q a w:=fun hQ =>
  wpIn_region_any hm (wpAny_in hQ (fun i o ho=>List.all_eq_true.1 hd o (List.mem_of_getElem? (i:=i) (by simpa using ho))) _ _ _ _ h)
theorem w_yield (S:StD ds N a l) (hg:gOk ops l o = some true) {x:Operand} {xs:Array Operand} {ts:Array TypeId} {l0:Nat} (ho:o.op = .call { callee:=.value x,args:=xs,argTypes:=ts }) (hx:ev l x = some (.func (.yield l0) #[] #[])) (hd:o.dst = some d) (hN:Nat.blt d N = true)
    {vs:List Value} (hv:evs l xs.toList = some vs) {R:Ending → World → Prop} (h:YieldAt Fence.wide 0 P l0 vs.toArray w R) (k:∀ e w',R e w' → ∃ v,e = .returned v ∧ ∀ a',StD ds N a' ((d,v) :: l) → LI r P ops Q rest a' w'):LI r P ops Q (o :: rest) a w:=by
  intro hQ
  have hvs:xs.map a.eval = vs.toArray:=by
    rw [← S.evs hv,← Array.toList_map,Array.toArray_toList]
  obtain ⟨fn,tmps,assign,body,hy,hR⟩:=h
  have hr:(execOp a.eval o).run P w = .ok (.round l0 fn tmps assign body) w:=by
    simp [execOp,ho,resolve,S.eval hx,Deferred.ofValue,invoke,hvs,hy]
  have hnd:b_C o = true:=by unfold b_C;rw [ho]
  unfold wpListIn
  rw [if_pos (gOk.wanted S hg)]
  refine ⟨fun _ _=>trivial,?_⟩
  rw [e_M hnd,hr]
  refine ⟨fun h=>by simp [Fr,Fence.wide] at h,RoundIn.mono (show RoundIn (Fr r) 0 P l0 fn tmps assign body w R from hR) fun e w' he=>?_⟩
  obtain ⟨v,rfl,hk⟩:=k e w' he
  simp only [hd]
  exact hk _ (S.put (by simpa [Nat.blt_eq] using hN) v) hQ
end R
end
end Go.Proofs.YtlfgpmcohfaabaaGreatDoor
namespace Go.Proofs.YtlfgpmcohfaabaaGreatDoor
open Go.RowKit
structure Ab (Bs:List (Option Nat)) (n0:Nat) (A B:World):Prop where
  os:B.os = A.os
  tape:B.tape = A.tape
  output:B.output = A.output
  size:A.heap.size ≤ B.heap.size
  low:∀ b,b < n0 → b < A.heap.size → some b ∉ Bs → B.heap[b]? = A.heap[b]?
  cells:∀ b o,some b ∉ Bs → A.heap[b]? = some o → o.isCells = true → B.heap[b]? = some o
  others:∀ b o,some b ∉ Bs → A.heap[b]? = some o → o.isCells = false → ∃ o',B.heap[b]? = some o' ∧ o'.isCells = false
structure Nc (d:Nat) (A B:World):Prop where
  os:B.os = A.os
  tape:B.tape = A.tape
  output:B.output = A.output
  size:B.heap.size = A.heap.size
  block:∀ k,k ≠ d → B.heap[k]? = A.heap[k]?
  was:∃ o,A.heap[d]? = some o ∧ o.isCells = false
  is:∃ o,B.heap[d]? = some o ∧ o.isCells = false
def Ox (o:Obj) (w:World) (b:Nat):Prop:=w.heap[b]? = some o ∧ True
structure Yst (n:Nat) (A:World) (LO:List (Option Nat)) (B:World) (LO':List (Option Nat)):Prop where
  os:B.os = A.os
  tape:B.tape = A.tape
  output:B.output = A.output
  size:A.heap.size ≤ B.heap.size
  keep:∀ b,b < A.heap.size → some b ∉ LO → B.heap[b]? = A.heap[b]?
  old:∀ b,b < A.heap.size → some b ∈ LO' → some b ∈ LO
  own:∀ b,some b ∈ LO' → n ≤ b ∧ b < B.heap.size
  dis:LO'.Pairwise fun x y=>x = .none ∨ x ≠ y
structure Rnd (A:World) (LO:List (Option Nat)) (w:World) (L:List (Option Nat)):Prop where
  os:w.os = A.os
  tape:w.tape = A.tape
  output:w.output = A.output
  size:A.heap.size ≤ w.heap.size
  keep:∀ b,b < A.heap.size → some b ∉ LO → w.heap[b]? = A.heap[b]?
  old:∀ b,b < A.heap.size → some b ∈ L → some b ∈ LO
theorem cell_nc {A B:World} {b:Nat} {o o':Obj} (h1:A.heap[b]? = some o) (ho:o.isCells = false) (h2:B.heap[b]? = some o') (ho':o'.isCells = false) (p:Addr) (hp:p.block = b):B.cell? p = A.cell? p:=by
  subst hp
  unfold World.cell?
  cases o <;> simp [Obj.isCells] at ho <;> cases o' <;> simp [Obj.isCells] at ho' <;> simp [h1,h2]
section
variable {w0 w w' A B:World} {L L' LO LO' Bs:List (Option Nat)} {K:Nat → Prop} {n n0 b d i:Nat} {t:GT} {v v':Value} {o:Option Nat}
theorem Ab.nc (hn:Nc d A B) (hd:n0 ≤ d):Ab Bs n0 A B :=
  ⟨hn.os,hn.tape,hn.output,Nat.le_of_eq hn.size.symm,fun k h _ _=>hn.block k (by omega),fun k o _ e e'=>(hn.block k fun e2=>by
      obtain ⟨q,h1,h2⟩:=hn.was
      rw [e2,h1] at e
      rw [← Option.some.inj e,h2] at e'
      cases e').trans e,fun k o _ e e'=>by
    by_cases hk:k = d
    · subst hk;exact hn.is
    · exact ⟨o,(hn.block k hk).trans e,e'⟩⟩
theorem Ab.keeps (h:Ab Bs n0 A B) {K':Nat → Prop} (hK:∀ b,K' b → some b ∉ Bs):Keeps K' A B :=
  ⟨h.size,fun p hp hk=>by
    obtain ⟨o,ho⟩:∃ o,A.heap[p.block]? = some o:=⟨_,Array.getElem?_eq_getElem hp⟩
    cases hc:o.isCells with
    | true=>exact World.cell?_of_block ((h.cells _ o (hK _ hk) ho hc).trans ho.symm)
    | false =>
      obtain ⟨o',h1,h2⟩:=h.others _ o (hK _ hk) ho hc
      exact cell_nc ho hc h1 h2 p rfl⟩
theorem Ab.kx (h:Ab Bs n0 A B) (hs:∀ x ∈ Bs,x ∈ L):Keeps (Kx K n L) A B:=h.keeps fun b hk hm=>hk.2 (hs _ hm)
theorem Bx.ab {T:TypeId} {x:PT t} (h:Bx t T A (Kx K n L) b x) (hab:Ab Bs n0 A B) (hs:∀ x ∈ Bs,x ∈ L) (hb:some b ∉ Bs):Bx t T B (Kx K n L) b x:=by
  obtain ⟨cs,h1,h2⟩:=h
  exact ⟨cs,hab.cells b _ hb h1 rfl,h2.keep (hab.kx hs) fun _ _ h=>h⟩
theorem c_z {e:TypeId} {stride k:Nat} {cs:List Value} (h:A.ownsRow n e stride v k cs) (hb:∀ g o,v.ownBlock = some g → A.heap[g]? = some o → o.isCells = true → B.heap[g]? = some o):B.ownsRow n e stride v k cs:=by
  rcases h with ⟨h1,h2 | ⟨g,cap,cur,e1,e2,e3,e4⟩⟩
  · exact ⟨h1,.inl h2⟩
  · exact ⟨h1,.inr ⟨g,cap,cur,e1,e2,hb g _ (by rw [e1];rfl) e3 rfl,e4⟩⟩
theorem Ow.ab {e:GT} {E:TypeId} {xs:List (PT e)} {c:Option Nat} {m:Nat} (h:Ow e E A m (Kx K n L) v xs c) (hab:Ab Bs n0 A B) (hs:∀ x ∈ Bs,x ∈ L) (hb:v.ownBlock = .none ∨ v.ownBlock ∉ Bs):Ow e E B m (Kx K n L) v xs c:=by
  obtain ⟨cs,h1,h2,h3⟩:=h
  exact ⟨cs,c_z h1 fun g o e h4 h5=>hab.cells g o (fun hm=>by
    rcases hb with hb | hb
    · rw [hb] at e;cases e
    · exact hb (e ▸ hm)) h4 h5,h2.keep (hab.kx hs) fun _ _ h=>h,h3⟩
theorem Wd.ab (h:Wd w0 A L) (hab:Ab Bs n0 A B) (hs:∀ x ∈ Bs,x ∈ L) (hn:w0.heap.size ≤ n0):Wd w0 B L :=
  ⟨h.below.trans ⟨hab.os,hab.tape,hab.output,hab.size,fun k hk=>hab.low k (by omega) (by have:=h.below.size;omega) fun hm=>by have:=(h.own k (hs _ hm)).1;omega⟩,
   fun c hc=>⟨(h.own c hc).1,by have:=(h.own c hc).2;have:=hab.size;omega⟩,h.dis⟩
theorem Ox.ab {q:Obj} (h:Ox q A b) (hab:Ab Bs n0 A B) (hb:b < n0) (hn:some b ∉ Bs):Ox q B b:=⟨(hab.low b hb (Array.getElem?_eq_some_iff.1 h.1).1 hn).trans h.1,h.2⟩
theorem Ox.lt {q:Obj} (h:Ox q A b):b < A.heap.size:=(Array.getElem?_eq_some_iff.1 h.1).1
theorem Nc.keeps (h:Nc d A B) {K':Nat → Prop}:Keeps K' A B:=(Ab.nc (Bs:=[]) (n0:=0) h (Nat.zero_le _)).keeps fun _ _ hm=>by cases hm
theorem Bx.nc {T:TypeId} {x:PT t} (h:Bx t T A K b x) (hn:Nc d A B):Bx t T B K b x:=by
  obtain ⟨cs,h1,h2⟩:=h
  exact ⟨cs,(Ab.nc (Bs:=[]) (n0:=0) hn (Nat.zero_le _)).cells b _ (by simp) h1 rfl,h2.keep hn.keeps fun _ _ h=>h⟩
theorem Ow.nc {e:GT} {E:TypeId} {xs:List (PT e)} {c:Option Nat} {m:Nat} (h:Ow e E A m K v xs c) (hn:Nc d A B):Ow e E B m K v xs c:=by
  obtain ⟨cs,h1,h2,h3⟩:=h
  exact ⟨cs,c_z h1 fun g o e h4 h5=>(Ab.nc (Bs:=[]) (n0:=0) hn (Nat.zero_le _)).cells g o (by simp) h4 h5,h2.keep hn.keeps fun _ _ h=>h,h3⟩
theorem Wd.nc (h:Wd w0 A L) (hn:Nc d A B) (hd:some d ∈ L):Wd w0 B L:=Wd.ab (Bs:=[]) (n0:=w0.heap.size) h (Ab.nc hn (h.own d hd).1) (by simp) (Nat.le_refl _)
theorem Ox.nc {q:Obj} (h:Ox q A b) (hn:Nc d A B) (hb:b ≠ d):Ox q B b:=⟨(hn.block b hb).trans h.1,h.2⟩
theorem Nc.put {o o':Obj} (h:A.heap[d]? = some o) (ho:o.isCells = false) (ho':o'.isCells = false):Nc d A (A.putObj d o') :=
  ⟨rfl,rfl,rfl,by simp [World.putObj],fun k hk=>World.putObj_heap_other hk,⟨o,h,ho⟩,⟨o',World.putObj_heap_same (Array.getElem?_eq_some_iff.1 h).1,ho'⟩⟩
theorem Ox.step {q:Obj} (h:Ox q w b) (hb:Below w.heap.size w w'):Ox q w' b:=⟨(hb.block b h.lt).trans h.1,h.2⟩
theorem Ox.box {q:Obj} (h:Ox q w b) (hb:NewB w w' i):Ox q w' b:=h.step hb.below
theorem Ox.wrote {q:Obj} (h:Ox q w b) (hw:Wrote i w w') (hm:True) (hne:b ≠ i):Ox q w' b:=⟨(hw.block b hne).trans h.1,h.2⟩
theorem Ox.apd {q:Obj} (h:Ox q w b) (W:Wd w0 w L) (ha:Apd w w' v v') (hi:L[i]? = some v.ownBlock) {j:Nat} (hj:L[j]? = some (some b)) (hji:j ≠ i):Ox q w' b :=
  ⟨(ha.grown.block b h.lt fun e=>by
    rcases W.neq hji hj hi with e2 | e2
    · cases e2
    · exact e2 e).trans h.1,h.2⟩
theorem Ox.more {q:Obj} (h:Ox q w b):Ox q w b:=h
theorem Ox.lessAt {q:Obj} (h:Ox q w b) (i:Nat):Ox q w b:=h
theorem Rnd.start (A:World) (L:List (Option Nat)):Rnd A L A L:=⟨rfl,rfl,rfl,Nat.le_refl _,fun _ _ _=>rfl,fun _ _ h=>h⟩
theorem Rnd.step (h:Rnd A LO w L) (hb:Below w.heap.size w w'):Rnd A LO w' L :=
  ⟨hb.os.trans h.os,hb.tape.trans h.tape,hb.output.trans h.output,Nat.le_trans h.size hb.size,fun b hl hm=>(hb.block b (Nat.lt_of_lt_of_le hl h.size)).trans (h.keep b hl hm),h.old⟩
theorem Rnd.newO (h:Rnd A LO w L) (hN:NewO w w' o):Rnd A LO w' (o :: L) :=
  have h1:=h.step hN.below
  ⟨h1.os,h1.tape,h1.output,h1.size,h1.keep,fun b hl hm=>by
    rcases List.mem_cons.1 hm with e | hm
    · have:=hN.ge b e.symm;have:=h.size;omega
    · exact h.old b hl hm⟩
theorem Rnd.box (h:Rnd A LO w L) (hb:NewB w w' b):Rnd A LO w' (some b :: L):=h.newO (NewB.newO hb)
theorem Rnd.wrote (h:Rnd A LO w L) (hw:Wrote b w w') (hb:some b ∈ L):Rnd A LO w' L :=
  ⟨hw.os.trans h.os,hw.tape.trans h.tape,hw.output.trans h.output,by rw [hw.size];exact h.size,fun k hl hm=>(hw.block k fun e=>hm (h.old k hl (e ▸ hb))).trans (h.keep k hl hm),h.old⟩
theorem Rnd.nc (h:Rnd A LO w L) (hw:Nc b w w') (hb:some b ∈ L):Rnd A LO w' L :=
  ⟨hw.os.trans h.os,hw.tape.trans h.tape,hw.output.trans h.output,by rw [hw.size];exact h.size,fun k hl hm=>(hw.block k fun e=>hm (h.old k hl (e ▸ hb))).trans (h.keep k hl hm),h.old⟩
theorem Rnd.apd (h:Rnd A LO w L) (ha:Apd w w' v v') (hi:L[i]? = some v.ownBlock):Rnd A LO w' (L.set i v'.ownBlock) :=
  have hm:=List.mem_of_getElem? hi
  ⟨ha.grown.os.trans h.os,ha.grown.tape.trans h.tape,ha.grown.output.trans h.output,Nat.le_trans h.size ha.grown.size,fun b hl hb=>(ha.grown.block b (Nat.lt_of_lt_of_le hl h.size) fun e=>hb (h.old b hl (by rw [e];exact hm))).trans (h.keep b hl hb),
   fun b hl hb=>by
    rcases List.mem_or_eq_of_mem_set hb with hb | e
    · exact h.old b hl hb
    · rcases ha.at_ with e2 | e2
      · exact h.old b hl (by rw [e,e2];exact hm)
      · rw [e2] at e;have:=Option.some.inj e;have:=h.size;omega⟩
theorem Rnd.more (h:Rnd A LO w L):Rnd A LO w (.none :: L):=⟨h.os,h.tape,h.output,h.size,h.keep,fun b hl hm=>by
  rcases List.mem_cons.1 hm with e | hm
  · cases e
  · exact h.old b hl hm⟩
theorem Rnd.less (h:Rnd A LO w L) (hs:L'.Sublist L):Rnd A LO w L':=⟨h.os,h.tape,h.output,h.size,h.keep,fun b hl hm=>h.old b hl (hs.subset hm)⟩
theorem Rnd.lessAt (h:Rnd A LO w L) (i:Nat):Rnd A LO w (L.eraseIdx i):=h.less (List.eraseIdx_sublist _ _)
theorem Rnd.drop (h:Rnd A LO w L) (i:Nat):Rnd A LO w (L.drop i):=h.less (List.drop_sublist _ _)
theorem Rnd.yst (h:Rnd A LO w L) (W:Wd w0 w L):Yst w0.heap.size A LO w L:=⟨h.os,h.tape,h.output,h.size,h.keep,h.old,W.own,W.dis⟩
theorem Yst.kk (hy:Yst n A LO B LO') {c:Nat} (hc:c < A.heap.size) (hk:Kx K n0 (Bs ++ LO) c):Kx K n0 (Bs ++ LO') c :=
  ⟨hk.1,fun hm=>hk.2 (by
    rcases List.mem_append.1 hm with hm | hm
    · exact List.mem_append.2 (.inl hm)
    · exact List.mem_append.2 (.inr (hy.old c hc hm)))⟩
theorem Yst.keeps (hy:Yst n A LO B LO'):Keeps (Kx K n0 (Bs ++ LO)) A B:=⟨hy.size,fun p hp hk=>World.cell?_of_block (hy.keep _ hp fun hm=>hk.2 (List.mem_append.2 (.inr hm)))⟩
theorem Wd.yst (Bs:List (Option Nat)) (h:Wd w0 A (Bs ++ LO)) (hy:Yst w0.heap.size A LO B LO'):Wd w0 B (Bs ++ LO'):=by
  have hd:=List.pairwise_append.1 h.dis
  refine ⟨h.below.trans ⟨hy.os,hy.tape,hy.output,hy.size,fun k hk=>hy.keep k (by have:=h.below.size;omega) fun hm=>by have:=(h.own k (List.mem_append.2 (.inr hm))).1;omega⟩,fun c hc=>?_,List.pairwise_append.2 ⟨hd.1,hy.dis,fun x hx y hz=>?_⟩⟩
  · rcases List.mem_append.1 hc with hc | hc
    · have:=h.own c (List.mem_append.2 (.inl hc));have:=hy.size;omega
    · exact hy.own c hc
  · cases x with
    | none=>exact .inl rfl
    | some c =>
      refine .inr fun e=>?_
      subst e
      have hc:=(h.own c (List.mem_append.2 (.inl hx))).2
      rcases hd.2.2 _ hx _ (hy.old c hc hz) with e | e
      · cases e
      · exact e rfl
structure JI {β:Type} (Inv:β → List (Option Nat) → World → Prop) (Bs:List (Option Nat)) (n0:Nat) (LO:List (Option Nat)) (A:World) (b:β):Prop where
  ab:∀ b LO A B,Inv b LO A → Ab Bs n0 A B → Inv b LO B
  inv:Inv b LO A
  hn:n0 ≤ A.heap.size
variable {β:Type} {Inv:β → List (Option Nat) → World → Prop} {s:β}
end
def Lr (D:Nat) (fn:FuncId) (tmps:Array Value) (ps:Array Tmp) (assign body:Code) (st:LoopState) (pe:Option Code):Obj:=.loop { state:=st,pending:=pe,fn,tmps,params:=ps,assign,body,defers:=D }
def rk (rec:LoopState → Option Code → Obj) (js:List Code):Nat → Obj
  | 0=>rec .ready none
  | k + 1=>rec .done js[k]?
def c_1 (D:Nat):Deferred:={ target:=.collected D,args:=#[] }
section
variable {r:Option Nat} {ds:List Deferred} {N:Nat} {a:Act} {sl:List (Nat × Value)} {w w0:World} {P:Program} {Q:Exit → Act → World → Prop}
def RP (P:Program) (l:Nat) (Q:Exit → Act → World → Prop) (a':Act) (w:World):Prop :=
  ∃ jump w4,(Instr.endLoop l).run P w = .ok jump w4 ∧ (match jump with | none=>Q .normal a' w4 | some c=>CI none P c Q a' w4)
theorem RP.done {rec:LoopState → Option Code → Obj} {l D fn tmps ps assign body} (hr:rec = Lr D fn tmps ps assign body) (h:Ox (rec .ready none) w l) (k:∀ w4,Nc l w w4 → Q .normal a w4):RP P l Q a w:=by
  subst hr
  exact ⟨none,_,run_endLoop h.1 (by simp),k _ (Nc.put h.1 rfl rfl)⟩
theorem R.range (S:StD ds N a sl) {g:Operand} {ps:Array Tmp} {assign body:Code} {gf:FuncId} {lb:Array Value} (hg:ev sl g = some (.func (.func gf) #[] lb)) (hcb:a_C P gf = true)
    (h:∀ fn w1 w2 D l rec,rec = Lr D fn a.tmps ps assign body → NewB w w1 D → NewB w1 w2 l → Ox (.deferred (some [])) w1 D → Ox (rec .ready none) w2 l →
      Calls P gf (#[.func (.yield l) #[] #[]] ++ lb) w2 fun e w3=>(∃ v,e = .returned v) ∧ RP P l Q { a with defers:=c_1 D :: a.defers } w3):CI none P (.rangeFunc g ps assign body) Q a w:=by
  intro hQ
  refine wpIn_rangeFunc fun fn _=>?_
  have n1:NewB w (w.alloc (.deferred (some []))) w.heap.size:=⟨(Below.refl _ w).alloc (Nat.le_refl _) _,Nat.le_refl _,by simp⟩
  have hl:=World.alloc_heap_new (w.alloc (.deferred (some []))) (Lr w.heap.size fn a.tmps ps assign body .ready none)
  rw [World.size_alloc] at hl
  have n2:NewB (w.alloc (.deferred (some []))) ((w.alloc (.deferred (some []))).alloc (Lr w.heap.size fn a.tmps ps assign body .ready none)) (w.heap.size + 1):=⟨(Below.refl _ _).alloc (Nat.le_refl _) _,by simp,by simp⟩
  have hD:Ox (.deferred (some [])) (w.alloc (.deferred (some []))) w.heap.size:=⟨World.alloc_heap_new w _,trivial⟩
  refine ⟨w.heap.size + 1,[c_1 w.heap.size],_,{ target:=.fn (.func gf) lb,args:=#[.func (.yield (w.heap.size + 1)) #[] #[]] },(w.alloc (.deferred (some []))).alloc (Lr w.heap.size fn a.tmps ps assign body .ready none),gf,#[.func (.yield (w.heap.size + 1)) #[] #[]] ++ lb,(w.alloc (.deferred (some []))).alloc (Lr w.heap.size fn a.tmps ps assign body .ready none),run_enterLoop_outer fn a.tmps ps assign body,?_,fun _ _=>trivial,?_,fun h=>by simp [Fr,Fence.wide] at h,?_⟩
  · have:a.eval g = .func (.func gf) #[] lb:=S.eval hg
    simp only [resolve,this]
    simp [go_sem]
    rfl
  · simp [invoke,b_S hcb]
  · refine d_p ((h fn _ _ _ _ _ rfl n1 n2 hD ⟨hl,trivial⟩).mono ?_)
    rintro _ w3 ⟨⟨v,rfl⟩,jump,w4,he,hj⟩
    refine ⟨jump,w4,he,?_⟩
    cases jump with
    | none=>exact hj
    | some c=>exact hj hQ
def psL:List Nat → List Value → List (Nat × Value) → List (Nat × Value)
  | p :: ps,v :: vs,l=>psL ps vs ((p,v) :: l)
  | _,_,l=>l
theorem St.round:∀ (ps:List Nat) (vs:List Value) {T:Array Value} {sl:List (Nat × Value)},(∀ p ∈ ps,p < N) → StD [] N { tmps:=T,defers:=[] } sl → St N { tmps:=(ps.zip vs).foldl (fun t p=>t.setIfInBounds p.1 p.2) T,defers:=[] } (psL ps vs sl)
  | [],_,_,_,_,S=>S
  | _ :: _,[],_,_,_,S=>S
  | p :: ps,v :: vs,T,sl,hp,S=>St.round ps vs (fun q hq=>hp q (List.mem_cons_of_mem _ hq)) (S.put (hp p (List.mem_cons_self ..)) v)
theorem StD.mark {D:Nat} (S:StD ds N a sl):StD (c_1 D :: ds) N { a with defers:=c_1 D :: a.defers } sl:=⟨S.size,by simp [S.defers],S.at_⟩
theorem StD.plain (S:StD ds N a sl):StD [] N { tmps:=a.tmps,defers:=[] } sl:=⟨S.size,rfl,S.at_⟩
def BG (P:Program) (l:Nat) (body:Code) (R:Ending → World → Prop) (a:Act) (w:World):Prop:=∃ w2,(Instr.beginRound l).run P w = .ok () w2 ∧ CI (some l) P body (roundPost P l R) a w2
theorem R.begin {rec:LoopState → Option Code → Obj} {l D fn tmps ps assign body b} {R:Ending → World → Prop} (hr:rec = Lr D fn tmps ps assign b) (h:Ox (rec .ready none) w l) (k:∀ w2,Nc l w w2 → Ox (rec .busy none) w2 l → CI (some l) P body (roundPost P l R) a w2):BG P l body R a w:=by
  subst hr
  exact ⟨_,run_beginRound h.1 rfl,k _ (Nc.put h.1 rfl rfl) ⟨World.putObj_heap_same (Array.getElem?_eq_some_iff.1 h.1).1,trivial⟩⟩
theorem d_q {rec:LoopState → Option Code → Obj} {l D fn assign body} {ps:List Nat} {vs:List Value} {R:Ending → World → Prop} (hr:rec = Lr D fn a.tmps ps.toArray assign body) (S:StD ds N a sl) (h:Ox (rec .ready none) w l) (hs:vs.length = ps.length) (hp:ps.all (Nat.blt · N) = true)
    (k:∀ a',St N a' (psL ps vs sl) → CI (some l) P assign (Exit.then (BG P l body R) (fun _ _ _=>False)) a' w):YieldAt Fence.wide 0 P l vs.toArray w R:=by
  subst hr
  have hy:=run_yield (P:=P) (args:=vs.toArray) h.1 (by simpa using hs)
  refine ⟨fn,_,assign,body,hy,roundIn_of_wpIn trivial ?_⟩
  have S1:=St.round ps vs (fun p hm=>by simpa [Nat.blt_eq] using List.all_eq_true.1 hp p hm) S.plain
  have e:((ps.toArray.zip vs.toArray).foldl (fun tmps (x:Tmp × Value)=>tmps.setIfInBounds x.1 x.2) a.tmps) = (ps.zip vs).foldl (fun t p=>t.setIfInBounds p.1 p.2) a.tmps:=by simp
  have:=k _ S1 (fun ⟨_,_,h⟩=>h)
  refine wpIn_mono (c:=assign) (F:=Fence.wide.inRound l) (show assign.wpIn (Fence.wide.inRound l) 0 P _ _ w from by rw [← e] at this;exact this) fun e a' w' he=>?_
  cases e with
  | normal=>obtain ⟨w2,h1,h2⟩:=he;exact ⟨w2,h1,h2 (fun ⟨_,_,h⟩=>h)⟩
  | _=>exact he
theorem R.end_n {rec:LoopState → Option Code → Obj} {l D fn tmps ps assign b} {R:Ending → World → Prop} (hr:rec = Lr D fn tmps ps assign b) (h:Ox (rec .busy none) w l) (k:∀ w2,Nc l w w2 → Ox (rec .ready none) w2 l → R (.returned (.bool true)) w2):roundPost P l R .normal a w:=by
  subst hr
  exact ⟨_,_,run_endRound none h.1,k _ (Nc.put h.1 rfl rfl) ⟨World.putObj_heap_same (Array.getElem?_eq_some_iff.1 h.1).1,trivial⟩⟩
theorem R.enter {f:FuncId} {fn:Func} {c:Code} {args:List Value} {R:Ending → World → Prop} (hf:P.funcs[f]? = some fn) (hb:fn.body = some c) (N:Nat) (hN:fn.ntmps = N) (hl:Nat.ble args.length N = true) (hR:∀ w,¬ R .outgrown w)
    (h:∀ a,St N a (b_6 0 args) → CI none P c (bodyPostM (Fr none) 0 P fn R) a w):Calls P f args.toArray w R:=by
  refine (callsIn_wide (n:=0)).1 (callsIn_of_wp_marks (F:=Fence.wide) hf hb trivial ?_)
  rw [hN]
  exact h _ (StD.enter args N (by simpa [Nat.ble_eq] using hl)) fun ⟨_,w,h⟩=>hR w h
theorem R.leave0 (S:StD [] N a sl) {fn:Func} {R:Ending → World → Prop} (h:∀ a',St N a' sl → bodyPost P fn R .ret a' w) {e:Exit} (he:e = .ret ∨ e = .normal):bodyPostM (Fr none) 0 P fn R e a w:=by
  have:=h a S
  obtain ⟨_,v,h1,h2⟩:=this
  rcases he with rfl | rfl <;> (show LeavesInM _ _ _ _ _ _ a.defers _ _;rw [S.defers];exact ⟨v,h1,h2⟩)
theorem R.leave1 {D:Nat} (S:StD [c_1 D] N a sl) {fn:Func} {R:Ending → World → Prop} (hD:Ox (.deferred (some [])) w D) (h:∀ a' w',Nc D w w' → St N a' sl → bodyPost P fn R .ret a' w') {e:Exit} (he:e = .ret ∨ e = .normal):bodyPostM (Fr none) 0 P fn R e a w:=by
  obtain ⟨_,v,h1,h2⟩:=h { tmps:=a.tmps,defers:=[] } _ (Nc.put (o':=.deferred none) hD.1 rfl rfl) S.plain
  rcases he with rfl | rfl <;> (show LeavesInM _ _ _ _ _ _ a.defers _ _;rw [S.defers];exact ⟨by simp,.inl ⟨D,_,rfl,run_takeDeferred hD.1,v,h1,h2⟩⟩)
def rnd {σ α:Type} (body:σ → α → Option (Nat × σ)):Nat × σ → α → Option (Bool × (Nat × σ))
  | (0,s),x=>(body s x).map fun r=>(Nat.beq r.1 0,r)
  | _,_=>none
theorem e_N {σ α:Type} {body:σ → α → Option (Nat × σ)} {s:Nat × σ} {x:α} {r:Bool × (Nat × σ)} (h:rnd body s x = some r):∃ s0 r0,s = (0,s0) ∧ body s0 x = some r0 ∧ r = (Nat.beq r0.1 0,r0):=by
  unfold rnd at h
  split at h
  · cases hb:body _ _ with
    | none=>rw [hb] at h;cases h
    | some r0=>rw [hb] at h;exact ⟨_,r0,rfl,hb,(Option.some.inj h).symm⟩
  · cases h
end
end Go.Proofs.YtlfgpmcohfaabaaGreatDoor
namespace Go.Proofs.YtlfgpmcohfaabaaGreatDoor
open Go.RowKit
def Pr (t:GT) (w:World) (K:Nat → Prop) (p:Addr) (x:PT t):Prop:=RepAt t w K p x ∧ p.block < w.heap.size ∧ K p.block
section
variable {w0 w w' A B:World} {L L' LO LO' Bs:List (Option Nat)} {K K':Nat → Prop} {n n0 b d i:Nat} {t:GT} {v v':Value} {o:Option Nat} {p:Addr} {x:PT t}
theorem Pr.keep (h:Pr t w K p x) (hk:Keeps K w w') (hK:∀ b,b < w.heap.size → K b → K' b):Pr t w' K' p x :=
  ⟨h.1.keep hk hK fun i _=>hk.2 ⟨p.block,p.off + i,.none⟩ h.2.1 h.2.2,Nat.lt_of_lt_of_le h.2.1 hk.1,hK _ h.2.1 h.2.2⟩
theorem Pr.step (h:Pr t w K p x) (hb:Below w.heap.size w w'):Pr t w' K p x:=h.keep (Keeps.below hb) fun _ _ h=>h
theorem Pr.newO (h:Pr t w (Kx K n L) p x) (hN:NewO w w' o):Pr t w' (Kx K n (o :: L)) p x:=h.keep (Keeps.below hN.below) fun c hc hk=>Kx.newO hN hc hk
theorem Pr.box (h:Pr t w (Kx K n L) p x) (hb:NewB w w' b):Pr t w' (Kx K n (some b :: L)) p x:=h.newO (NewB.newO hb)
theorem Pr.wrote (h:Pr t w (Kx K n L) p x) (hw:Wrote b w w') (hb:some b ∈ L):Pr t w' (Kx K n L) p x:=h.keep (Keeps.wrote hw hb) fun _ _ h=>h
theorem Pr.apd (h:Pr t w (Kx K n L) p x) (ha:Apd w w' v v') (hi:L[i]? = some v.ownBlock):Pr t w' (Kx K n (L.set i v'.ownBlock)) p x:=h.keep (ha.keeps hi) (ha.kk hi)
theorem Pr.more (h:Pr t w (Kx K n L) p x):Pr t w (Kx K n (.none :: L)) p x:=h.keep (Keeps.refl _ _) fun _ _ hk=>hk.more
theorem Pr.less (h:Pr t w (Kx K n L) p x) (hs:L'.Sublist L):Pr t w (Kx K n L') p x:=h.keep (Keeps.refl _ _) fun c _ hk=>⟨hk.1,fun hm=>hk.2 (hs.subset hm)⟩
theorem Pr.lessAt (h:Pr t w (Kx K n L) p x) (i:Nat):Pr t w (Kx K n (L.eraseIdx i)) p x:=h.less (List.eraseIdx_sublist _ _)
theorem Pr.out (h:Pr t w (Kx K n L) p x):Pr t w (Kx K n []) p x:=h.less (List.nil_sublist _)
theorem Pr.yst (Bs:List (Option Nat)) (h:Pr t A (Kx K n0 (Bs ++ LO)) p x) (hy:Yst n A LO B LO'):Pr t B (Kx K n0 (Bs ++ LO')) p x:=h.keep hy.keeps fun c hc hk=>hy.kk hc hk
theorem Pr.back {w1:World} (h:Pr t w' (Kx (Kx K w1.heap.size L) w.heap.size []) p x) (hw:Wd w1 w L):Pr t w' (Kx K w1.heap.size L) p x:=h.keep (Keeps.refl _ _) fun c _ hk=>by
  rcases hk.1 with h1 | h1
  · exact h1
  · exact ⟨.inr (by have:=hw.below.size;omega),fun hm=>by have:=(hw.own c hm).2;omega⟩
theorem Bx.pr {T:TypeId} (h:Bx t T w (Kx K n L) b x) (W:Wd w0 w L) (hn:n = w0.heap.size) (i:Nat) (hi:L[i]? = some (some b)):Pr t w (Kx K n (L.eraseIdx i)) ⟨b,0,.none⟩ x:=by
  refine ⟨(h.lessAt i).at_,h.lt,.inr (by rw [hn];exact (W.own b (List.mem_of_getElem? hi)).1),fun hm=>?_⟩
  obtain ⟨j,hji,hj⟩:=b_U hm
  rcases W.neq hji hj hi with e | e
  · cases e
  · exact e rfl
theorem Pr.br (h:Pr t w K p x):Br t w K p x:=⟨h.1,h.2.1⟩
end
section
variable {ds:List Deferred} {N:Nat} {a:Act} {l:List (Nat × Value)} {w w0:World} {P:Program} {ops:Array Oper} {Q:Exit → Act → World → Prop} {o:Oper} {Kont:Act → World → Prop} {d:Nat}
theorem d_r (S:St N a l) {fn:Func} {R:Ending → World → Prop} (hr:fn.results = #[]) (hR:∀ v,R (.returned v) w):bodyPost P fn R .ret a w :=
  ⟨S.defers,_,by simp [results,hr];rfl,hR _⟩
end
end Go.Proofs.YtlfgpmcohfaabaaGreatDoor
namespace Go.Proofs.YtlfgpmcohfaabaaGreatDoor
open Go.RowKit
section
variable {ds:List Deferred} {N:Nat} {a:Act} {l:List (Nat × Value)} {w w0:World} {P:Program} {ops:Array Oper} {Q:Exit → Act → World → Prop} {rest:List Oper} {o:Oper} {Kont:Act → World → Prop} {d:Nat} {K:Nat → Prop} {n:Nat} {L:List (Option Nat)}
theorem a_8 (S:StD ds N a l) {T:TypeId} {parts:Array (Nat × Operand)} {m:Nat} {e:GT} {z0 x:List (PT e)} {vs:List Value} (z:Value) (ze:PT e) (ho:o.op = .build T parts) (ht:tiQ P (.arr m e) false T [] 0 = true) (hz:(P.info? T).bind (·.zero) = some z) (R:∀ w K,RepCs (.arr m e) w K z.cells.toList z0) (hd:o.dst = some d) (hN:Nat.blt d N = true)
    (hv:evs l (parts.toList.map (·.2)) = some vs) (ps:List (Nat × Value)) (hps:ps = (parts.toList.map (·.1)).zip vs) (hp:e.isPair = false) (F:FillsA m e w K ps z0 x) (k:∀ a' v,RepV (.arr m e) w K v x → StD ds N a' ((d,v) :: l) → Kont a' w):o.wp P a w Kont Q:=by
  obtain ⟨E,hE,hte⟩:=b_A ht
  obtain ⟨i,hi,hsz⟩:=a_G ht
  obtain ⟨j,hj,hjs⟩:=a_G hte
  have hz0:i.zero = some z:=by rw [hi] at hz;exact hz
  obtain ⟨cs',hfill,hrep⟩:=d_T ze ps z.cells.toList z0 x hp (R w K) F
  have hparts:(parts.map fun (p:Nat × Operand)=>(p.1,a.eval p.2)).toList = ps:=by
    rw [hps,← S.evs hv,Array.toList_map]
    induction parts.toList with
    | nil=>rfl
    | cons p r ih=>simp [ih]
  refine a_w S (v:=.agg cs'.toArray) hd hN ?_ fun a'=>k a' _ ⟨cs',hrep,rfl⟩
  have hpm:parts.map (fun (x:Nat × Operand)=>match x with | (i,x)=>(i,a.eval x)) = parts.map fun (p:Nat × Operand)=>(p.1,a.eval p.2):=rfl
  have hfill':Instr.fill (fun i=>some (i * e.sz,e.sz)) z.cells ps = some cs'.toArray:=by simpa using hfill
  simp only [execOp,ho,hpm,Instr.build,zeroValue,typeInfo,sizeOf,Sem.run_bind,run_program,hi,hj,hjs,Result.andThen_ok,Sem.run_pure,hz0,run_underlying hE,hparts,hfill']
end
end Go.Proofs.YtlfgpmcohfaabaaGreatDoor
namespace Go.Proofs.YtlfgpmcohfaabaaGreatDoor
open Go.RowKit
def Lx (t s t' s':GT) (get:PT t → PT s) (set:PT s' → PT t → PT t'):Prop :=
  ∀ w K cs x,RepCs t w K cs x → ∃ c1 c c2,cs = c1 ++ c ++ c2 ∧ RepCs s w K c (get x) ∧ ∀ cn y,cn.length = c.length → RepCs s' w K cn y → RepCs t' w K (c1 ++ cn ++ c2) (set y x)
theorem Lx.here {s s':GT}:Lx s s s' s' id (fun y _=>y):=fun w K cs x h=>⟨[],cs,[],by simp,h,fun cn y _ hy=>by simpa using hy⟩
theorem Lx.st {f s f' s':GT} {get:PT f → PT s} {set:PT s' → PT f → PT f'} (h:Lx f s f' s' get set):Lx (.st f) s (.st f') s' get set:=h
theorem Lx.left {a b s a' s':GT} {get:PT a → PT s} {set:PT s' → PT a → PT a'} (h:Lx a s a' s' get set):Lx (.pair a b) s (.pair a' b) s' (fun x=>get x.1) (fun y x=>(set y x.1,x.2)):=by
  rintro w K cs x ⟨c1,c2,e,h1,h2⟩
  obtain ⟨d1,d,d2,e',er,es⟩:=h w K c1 x.1 h1
  exact ⟨d1,d,d2 ++ c2,by rw [e,e'];simp,er,fun cn y hl hy=>⟨d1 ++ cn ++ d2,c2,by simp,es cn y hl hy,h2⟩⟩
theorem Lx.right {a b s b' s':GT} {get:PT b → PT s} {set:PT s' → PT b → PT b'} (h:Lx b s b' s' get set):Lx (.pair a b) s (.pair a b') s' (fun x=>get x.2) (fun y x=>(x.1,set y x.2)):=by
  rintro w K cs x ⟨c1,c2,e,h1,h2⟩
  obtain ⟨d1,d,d2,e',er,es⟩:=h w K c2 x.2 h2
  exact ⟨c1 ++ d1,d,d2,by rw [e,e'];simp,er,fun cn y hl hy=>⟨c1,d1 ++ cn ++ d2,by simp,h1,es cn y hl hy⟩⟩
section
variable {w:World} {K:Nat → Prop} {b n:Nat} {t t' e:GT} {T:TypeId} {L:List (Option Nat)}
theorem Lx.toRaw {get:PT t → PT (.sl e)} {set:Value → PT t → PT t'} (ln:Lx t (.sl e) t' .raw get set) {cs:List Value} {x:PT t} (h:RepCs t w K cs x):∃ v,RepCs t' w K cs (set v x):=by
  obtain ⟨c1,c,c2,rfl,⟨A,n,c0,rfl,_⟩,es⟩:=ln w K cs x h
  exact ⟨_,es [.slice A n c0] (.slice A n c0) rfl ⟨rfl,rfl⟩⟩
theorem Lx.unraw {get:PT t → Value} {set:PT (.sl e) → PT t → PT t'} (ln:Lx t .raw t' (.sl e) get set) {cs:List Value} {x:PT t} {y:Sl (PT e)} (h:RepCs t w K cs x) (hv:RepV (.sl e) w K (get x) y):RepCs t' w K cs (set y x):=by
  obtain ⟨c1,c,c2,rfl,⟨rfl,_⟩,es⟩:=ln w K cs x h
  obtain ⟨cs,⟨A,n,c0,rfl,h3⟩,e1⟩:=hv
  have e1:get x = .slice A n c0:=e1
  rw [e1]
  exact es [.slice A n c0] y rfl ⟨A,n,c0,rfl,h3⟩
theorem Bx.toRawX {get:PT t → PT (.sl e)} {set:Value → PT t → PT t'} (ln:Lx t (.sl e) t' .raw get set) {x:PT t} (h:Bx t T w K b x):∃ v,Bx t' T w K b (set v x):=by
  obtain ⟨cs,h1,h2⟩:=h
  obtain ⟨v,hv⟩:=ln.toRaw h2
  exact ⟨v,cs,h1,hv⟩
theorem Bx.unrawX {get:PT t → Value} {set:PT (.sl e) → PT t → PT t'} (ln:Lx t .raw t' (.sl e) get set) {x:PT t} {y:Sl (PT e)} (h:Bx t T w K b x) (hv:RepV (.sl e) w K (get x) y):Bx t' T w K b (set y x):=by
  obtain ⟨cs,h1,h2⟩:=h
  exact ⟨cs,h1,ln.unraw h2 hv⟩
theorem RepV.unrawX {get:PT t → Value} {set:PT (.sl e) → PT t → PT t'} (ln:Lx t .raw t' (.sl e) get set) (ha:t.agg = true) (ha':t'.agg = true) {u:Value} {x:PT t} {y:Sl (PT e)} (h:RepV t w K u x) (hv:RepV (.sl e) w K (get x) y):RepV t' w K u (set y x):=by
  obtain ⟨cs,h1,h2⟩:=h
  rw [ha,if_pos rfl] at h2
  exact ⟨cs,ln.unraw h1 hv,by rw [ha',if_pos rfl];exact h2⟩
end
theorem a_A (b m:Nat):(⟨b,0,.none⟩:Addr).add m = ⟨b,m,.none⟩:=by rw [e_G,Nat.zero_add]
theorem b_Y (b m n:Nat):((⟨b,0,.none⟩:Addr).add m).add n = ⟨b,m + n,.none⟩:=by rw [a_A,e_G]
instance slDec {α:Type} [DecidableEq α]:DecidableEq (Sl α):=fun a b =>
  if h:a.xs = b.xs ∧ a.cap = b.cap then isTrue (by obtain ⟨x,c⟩:=a;obtain ⟨y,d⟩:=b;obtain ⟨h1,h2⟩:=h;simp only at h1 h2;rw [h1,h2]) else isFalse (by rintro rfl;exact h ⟨rfl,rfl⟩)
section
variable {w:World} {K:Nat → Prop} {b n:Nat} {t e:GT} {T E:TypeId} {L:List (Option Nat)}
end
end Go.Proofs.YtlfgpmcohfaabaaGreatDoor
namespace Go.Proofs.YtlfgpmcohfaabaaGreatDoor
open Go.RowKit
section
variable {w0 w w' A B:World} {L P Q LO LO':List (Option Nat)} {K:Nat → Prop} {n n0 b m:Nat} {t:GT} {o:Option Nat} {u:Value} {p:Addr} {x:PT t} {T:TypeId}
theorem d_s {i:Nat} (hi:L[i]? = some o) {y:Option Nat} (h:y ∈ o :: L.eraseIdx i):y ∈ L:=by
  rcases List.mem_cons.1 h with e | h
  · rw [e];exact List.mem_of_getElem? hi
  · exact (List.eraseIdx_sublist _ _).subset h
theorem mv_perm:∀ {L:List (Option Nat)} {i:Nat},L[i]? = some o → (o :: L.eraseIdx i).Perm L
  | [],_,h=>by simp at h
  | y :: L,0,h=>by
    obtain rfl:y = o:=by simpa using h
    exact List.Perm.refl _
  | y :: L,i + 1,h=>(List.Perm.swap y o (L.eraseIdx i)).trans ((mv_perm (L:=L) (i:=i) (by simpa using h)).cons y)
theorem RepV.mv (h:RepV t w (Kx K n L) u x) (i:Nat) (hi:L[i]? = some o):RepV t w (Kx K n (o :: L.eraseIdx i)) u x:=h.keep (Keeps.refl _ _) fun c _ hk=>⟨hk.1,fun hm=>hk.2 (d_s hi hm)⟩
theorem Pr.mv (h:Pr t w (Kx K n L) p x) (i:Nat) (hi:L[i]? = some o):Pr t w (Kx K n (o :: L.eraseIdx i)) p x:=h.keep (Keeps.refl _ _) fun c _ hk=>⟨hk.1,fun hm=>hk.2 (d_s hi hm)⟩
theorem Bx.mv (h:Bx t T w (Kx K n L) b x) (i:Nat) (hi:L[i]? = some o):Bx t T w (Kx K n (o :: L.eraseIdx i)) b x:=by
  obtain ⟨cs,h1,h2⟩:=h
  exact ⟨cs,h1,h2.keep (Keeps.refl _ _) fun c _ hk=>⟨hk.1,fun hm=>hk.2 (d_s hi hm)⟩⟩
theorem Ow.mv {e:GT} {E:TypeId} {v:Value} {xs:List (PT e)} {c:Option Nat} (h:Ow e E w m (Kx K n L) v xs c) (i:Nat) (hi:L[i]? = some o):Ow e E w m (Kx K n (o :: L.eraseIdx i)) v xs c:=by
  obtain ⟨cs,h1,h2,h3⟩:=h
  exact ⟨cs,h1,h2.keep (Keeps.refl _ _) fun c _ hk=>⟨hk.1,fun hm=>hk.2 (d_s hi hm)⟩,h3⟩
theorem Wd.mv (h:Wd w0 w L) (i:Nat) (hi:L[i]? = some o):Wd w0 w (o :: L.eraseIdx i) :=
  ⟨h.below,fun c hc=>h.own c (d_s hi hc),((mv_perm hi).pairwise_iff (fun {x y} h=>by
    rcases h with h | h
    · subst h
      cases y with
      | none=>exact .inl rfl
      | some y=>exact .inr (by simp)
    · exact .inr fun e=>h e.symm)).2 h.dis⟩
theorem Rnd.mv {LO:List (Option Nat)} (h:Rnd A LO w L) (i:Nat) (hi:L[i]? = some o):Rnd A LO w (o :: L.eraseIdx i):=⟨h.os,h.tape,h.output,h.size,h.keep,fun b hl hm=>h.old b hl (d_s hi hm)⟩
theorem Wd.front (h:Wd w0 w (P ++ LO)):Wd w0 w P:=h.less (List.sublist_append_left _ _)
theorem Yst.kkf (hy:Yst n A P B Q) {c:Nat} (hc:c < A.heap.size) (hk:Kx K n0 (P ++ LO) c):Kx K n0 (Q ++ LO) c :=
  ⟨hk.1,fun hm=>hk.2 (by
    rcases List.mem_append.1 hm with hm | hm
    · exact List.mem_append.2 (.inl (hy.old c hc hm))
    · exact List.mem_append.2 (.inr hm))⟩
theorem Yst.keepsf (hy:Yst n A P B Q):Keeps (Kx K n0 (P ++ LO)) A B:=⟨hy.size,fun p hp hk=>World.cell?_of_block (hy.keep _ hp fun hm=>hk.2 (List.mem_append.2 (.inl hm)))⟩
theorem RepV.yfr (LO:List (Option Nat)) (h:RepV t A (Kx K n0 (P ++ LO)) u x) (hy:Yst n A P B Q):RepV t B (Kx K n0 (Q ++ LO)) u x:=h.keep hy.keepsf fun c hc hk=>hy.kkf hc hk
theorem Pr.yfr (LO:List (Option Nat)) (h:Pr t A (Kx K n0 (P ++ LO)) p x) (hy:Yst n A P B Q):Pr t B (Kx K n0 (Q ++ LO)) p x:=h.keep hy.keepsf fun c hc hk=>hy.kkf hc hk
theorem Yst.apart (hy:Yst n A P B Q) (W:Wd w0 A (P ++ LO)) (hb:some b ∈ LO):some b ∉ P:=fun hm=>by
  rcases (List.pairwise_append.1 W.dis).2.2 _ hm _ hb with e | e
  · cases e
  · exact e rfl
theorem Bx.yfr (LO:List (Option Nat)) (h:Bx t T A (Kx K n0 (P ++ LO)) b x) (hy:Yst n A P B Q) (W:Wd w0 A (P ++ LO)) (hb:some b ∈ LO):Bx t T B (Kx K n0 (Q ++ LO)) b x:=by
  have hl:=h.lt
  obtain ⟨cs,h1,h2⟩:=h
  exact ⟨cs,(hy.keep b hl (hy.apart W hb)).trans h1,h2.keep hy.keepsf fun c hc hk=>hy.kkf hc hk⟩
theorem Wd.yfr (LO:List (Option Nat)) (h:Wd w0 A (P ++ LO)) (hy:Yst w0.heap.size A P B Q):Wd w0 B (Q ++ LO):=by
  have hd:=List.pairwise_append.1 h.dis
  refine ⟨h.below.trans ⟨hy.os,hy.tape,hy.output,hy.size,fun k hk=>hy.keep k (by have:=h.below.size;omega) fun hm=>by have:=(h.own k (List.mem_append.2 (.inl hm))).1;omega⟩,fun c hc=>?_,List.pairwise_append.2 ⟨hy.dis,hd.2.1,fun y hz x hx=>?_⟩⟩
  · rcases List.mem_append.1 hc with hc | hc
    · exact hy.own c hc
    · have:=h.own c (List.mem_append.2 (.inr hc));have:=hy.size;omega
  · cases y with
    | none=>exact .inl rfl
    | some c =>
      refine .inr fun e=>?_
      subst e
      have hc:=(h.own c (List.mem_append.2 (.inr hx))).2
      rcases hd.2.2 _ (hy.old c hc hz) _ hx with e | e
      · cases e
      · exact e rfl
theorem Rnd.yfr {A0:World} {L0:List (Option Nat)} (LO:List (Option Nat)) (h:Rnd A0 L0 A (P ++ LO)) (hy:Yst n A P B Q):Rnd A0 L0 B (Q ++ LO) :=
  ⟨hy.os.trans h.os,hy.tape.trans h.tape,hy.output.trans h.output,Nat.le_trans h.size hy.size,fun b hl hm=>(hy.keep b (Nat.lt_of_lt_of_le hl h.size) fun h2=>hm (h.old b hl (List.mem_append.2 (.inl h2)))).trans (h.keep b hl hm),
   fun b hl hm=>by
    rcases List.mem_append.1 hm with hm | hm
    · exact h.old b hl (List.mem_append.2 (.inl (hy.old b (Nat.lt_of_lt_of_le hl h.size) hm)))
    · exact h.old b hl (List.mem_append.2 (.inr hm))⟩
theorem Ab.rnd {Bs P L:List (Option Nat)} (h:Rnd A P w L) (hab:Ab Bs n0 w w') (hn:A.heap.size ≤ n0) (hs:∀ b,some b ∈ Bs → b < A.heap.size → some b ∈ P):Rnd A P w' L :=
  ⟨hab.os.trans h.os,hab.tape.trans h.tape,hab.output.trans h.output,Nat.le_trans h.size hab.size,
   fun b hb hm=>(hab.low b (Nat.lt_of_lt_of_le hb hn) (Nat.lt_of_lt_of_le hb h.size) fun hB=>hm (hs b hB hb)).trans (h.keep b hb hm),h.old⟩
theorem RepAt.arr_len {k:Nat} {e:GT} {x:List (PT e)} (h:RepAt (.arr k e) w K p x):x.length = k:=by
  obtain ⟨_,cs,h2,_⟩:=h
  exact h2.1
end
structure Gs (w0:World) (I:List Nat) (L:List (Option Nat)) (s b:Nat) (F:GW → Prop) (g g':GW):Prop where
  os:g'.2.os = g.2.os
  tape:g'.2.tape = g.2.tape
  output:g'.2.output = g.2.output
  size:g.2.heap.size ≤ g'.2.heap.size
  block:∀ k,k < g.2.heap.size → (k = b → (g.1 s ≠ none ∨ g'.1 s = none)) → g'.2.heap[k]? = g.2.heap[k]?
  same:∀ j o,g.1 j = some o → g'.1 j = some o
  new:∀ j c,g.1 j = none → g'.1 j = some (some c) → g.2.heap.size ≤ c
  wd:Wd w0 g.2 (lm I L g.1) → Wd w0 g'.2 (lm I L g'.1)
  sto:g.1 s = none → g'.1 s ≠ none → F g'
section
variable {w0 w w' A B:World} {I:List Nat} {L LO:List (Option Nat)} {K:Nat → Prop} {n s b c m:Nat} {F:GW → Prop} {g g':GW} {M:Nat → Option (Option Nat)} {t:GT} {u:Value} {x:PT t} {T:TypeId}
end
section
variable {P:Program} {Q:Exit → Act → World → Prop} {a0:Act} {w0 w:World}
variable {ds:List Deferred} {N d i s b:Nat} {A:Act} {l:List (Nat × Value)} {v:Value} {f:Value → GW → Prop} {w':World} {M:Nat → Option (Option Nat)} {I:List Nat} {L:List (Option Nat)} {F:GW → Prop}
end
end Go.Proofs.YtlfgpmcohfaabaaGreatDoor
namespace Go.Proofs.YtlfgpmcohfaabaaGreatDoor
open Go.RowKit
@[reducible] def pB (b:Nat):Value:=.pointer (some (⟨b,0,.none⟩:Addr))
section
variable {w0 w w' A:World} {L P LO:List (Option Nat)} {K:Nat → Prop} {n b m:Nat} {t:GT} {u:Value} {p:Addr} {x:PT t} {T:TypeId}
theorem Kx.newW {c:Nat} (hN:Wd w w' P) (hc:c < w.heap.size) (hk:Kx K n L c):Kx K n (P ++ L) c:=⟨hk.1,fun hm=>by
  rcases List.mem_append.1 hm with hm | hm
  · have:=(hN.own c hm).1;omega
  · exact hk.2 hm⟩
theorem RepV.newW (h:RepV t w (Kx K n L) u x) (hN:Wd w w' P):RepV t w' (Kx K n (P ++ L)) u x:=h.keep (Keeps.below hN.below) fun c hc hk=>Kx.newW hN hc hk
theorem Bx.newW (h:Bx t T w (Kx K n L) b x) (hN:Wd w w' P):Bx t T w' (Kx K n (P ++ L)) b x:=by
  have hl:=h.lt
  obtain ⟨cs,h1,h2⟩:=h
  exact ⟨cs,(hN.below.block b hl).trans h1,h2.keep (Keeps.below hN.below) fun c hc hk=>Kx.newW hN hc hk⟩
theorem Wd.newW (h:Wd w0 w L) (hN:Wd w w' P):Wd w0 w' (P ++ L):=by
  have hs:=hN.below.size
  have hz:=h.below.size
  refine ⟨h.below.trans (hN.below.mono hz),fun c hm=>?_,List.pairwise_append.2 ⟨hN.dis,h.dis,fun y hy z hz=>?_⟩⟩
  · rcases List.mem_append.1 hm with hm | hm
    · have:=hN.own c hm;omega
    · have:=h.own c hm;omega
  · cases y with
    | none=>exact .inl rfl
    | some c =>
      refine .inr fun e=>?_
      subst e
      have:=(hN.own c hy).1;have:=(h.own c hz).2;omega
theorem Kx.backW {c:Nat} (hW:Wd w0 w L) (hk:Kx (Kx K w0.heap.size L) w.heap.size P c):Kx K w0.heap.size (P ++ L) c:=by
  obtain ⟨h1,h2⟩:=hk
  rcases h1 with h1 | h1
  · exact ⟨h1.1,fun hm=>by
      rcases List.mem_append.1 hm with hm | hm
      · exact h2 hm
      · exact h1.2 hm⟩
  · refine ⟨.inr (by have:=hW.below.size;omega),fun hm=>?_⟩
    rcases List.mem_append.1 hm with hm | hm
    · exact h2 hm
    · have:=(hW.own c hm).2;omega
theorem RepV.backW (h:RepV t w' (Kx (Kx K w0.heap.size L) w.heap.size P) u x) (hW:Wd w0 w L):RepV t w' (Kx K w0.heap.size (P ++ L)) u x:=h.keep (Keeps.refl _ _) fun c _ hk=>Kx.backW hW hk
end
section
variable {w:World} {K:Nat → Prop} {e:GT}
end
section
variable {ds:List Deferred} {N:Nat} {a:Act} {l:List (Nat × Value)} {w w0:World} {P:Program} {ops:Array Oper} {Q:Exit → Act → World → Prop} {rest:List Oper} {o:Oper} {Kont:Act → World → Prop} {d:Nat} {K:Nat → Prop} {n:Nat} {L:List (Option Nat)}
end
section
variable {ds:List Deferred} {N:Nat} {a:Act} {l:List (Nat × Value)} {w:World} {P:Program} {ops:Array Oper} {Q:Exit → Act → World → Prop}
end
end Go.Proofs.YtlfgpmcohfaabaaGreatDoor
namespace Go.Proofs.YtlfgpmcohfaabaaGreatDoor
open Go.RowKit
section
variable {w0 w A:World} {I:List Nat} {L L2 LO:List (Option Nat)} {s b:Nat} {F:GW → Prop} {g g':GW}
end
theorem Br.free {t:GT} {w:World} {K:Nat → Prop} {n:Nat} {L:List (Option Nat)} {p:Addr} {x:PT t} (h:Br t w (Kx K n L) p x):Br t w (Kx K n []) p x :=
  ⟨h.1.keep (Keeps.refl _ _) (fun c _ hk=>⟨hk.1,fun h=>(List.not_mem_nil h).elim⟩) (fun i _=>rfl),h.2⟩
section
variable {ds:List Deferred} {N:Nat} {a:Act} {l:List (Nat × Value)} {w w0:World} {P:Program} {ops:Array Oper} {Q:Exit → Act → World → Prop} {rest:List Oper} {o:Oper} {Kont:Act → World → Prop} {d:Nat} {K:Nat → Prop} {n:Nat} {L:List (Option Nat)}
end
end Go.Proofs.YtlfgpmcohfaabaaGreatDoor
namespace Go.Proofs.YtlfgpmcohfaabaaGreatDoor
open Go.RowKit
section
variable {P:Program} {ops:Array Oper} {Q:Exit → Act → World → Prop} {a0 A:Act} {w0 w:World} {ds:List Deferred} {N d i s b:Nat} {l:List (Nat × Value)} {v:Value} {o:Oper} {M:Nat → Option (Option Nat)} {I:List Nat} {L:List (Option Nat)}
theorem RPost.one {R:World → World → Prop} {f:Value → World → Prop} (S:StD ds N A l) (tys:List (TypeId × GT)) (ht:tysOk P tys = true) (hd:o.dst = some d) (h:(a_o tys ops N [o] l).bind (fun q=>lk q d) = some v) (h0:a0.defers = ds) (hf:f v w) (hb:R w w) :
    FillE w [] A (fun B=>wpList P ops (a_9 R o.dst f a0.defers w Q) [o] B w):=by
  show wpList P ops _ [o] A w
  obtain ⟨q,h1,h2⟩:=Option.bind_eq_some_iff.1 h
  refine b_a S tys ht 1 (l0:=[o]) h1 fun a' S'=>?_
  rw [hd]
  exact wpList_nil (RPost.mk_ S' h2 h0 hf hb)
end
end Go.Proofs.YtlfgpmcohfaabaaGreatDoor
namespace Go.Proofs.YtlfgpmcohfaabaaGreatDoor
open Go.RowKit
section
variable {w w':World} {n:Nat} {K:Nat → Prop} {L:List (Option Nat)} {e:GT} {E:TypeId} {v:Value} {xs:List (PT e)} {c:Option Nat}
end
section
variable {ds:List Deferred} {N:Nat} {a:Act} {l:List (Nat × Value)} {w w0:World} {P:Program} {ops:Array Oper} {Q:Exit → Act → World → Prop} {rest:List Oper} {o:Oper} {Kont:Act → World → Prop} {d:Nat} {K:Nat → Prop} {n:Nat} {L:List (Option Nat)}
end
end Go.Proofs.YtlfgpmcohfaabaaGreatDoor
namespace Go.Proofs.YtlfgpmcohfaabaaGreatDoor
open Go.RowKit
@[reducible] def c_A:Value → Option Nat
  | .pointer (some a)=>some a.block
  | _=>.none
def Opt1 (t:GT) (T:TypeId) (w:World) (K:Nat → Prop) (v:Value) (x:Option (PT t)):Prop:=(v = .pointer .none ∧ x = .none) ∨ ∃ b y,v = pB b ∧ x = some y ∧ Bx t T w K b y
def optK {α γ:Type} (o:Option α) (a:Option γ) (f:α → Option γ):Option γ:=match o with | .none=>a | some y=>f y
theorem optK_none {α γ:Type} {o:Option α} {a:Option γ} {f:α → Option γ} {r:γ} (ho:o = .none) (h:optK o a f = some r):a = some r:=by subst ho;exact h
theorem optK_some {α γ:Type} {o:Option α} {a:Option γ} {f:α → Option γ} {r:γ} {y:α} (ho:o = some y) (h:optK o a f = some r):f y = some r:=by subst ho;exact h
section
variable {w0 w w':World} {L P:List (Option Nat)} {K:Nat → Prop} {n b:Nat} {t:GT} {v:Value} {T:TypeId}
theorem Bx.backW {x:PT t} (h:Bx t T w' (Kx (Kx K w0.heap.size L) w.heap.size P) b x) (hW:Wd w0 w L):Bx t T w' (Kx K w0.heap.size (P ++ L)) b x:=by
  obtain ⟨cs,h1,h2⟩:=h
  exact ⟨cs,h1,h2.keep (Keeps.refl _ _) fun c _ hk=>Kx.backW hW hk⟩
theorem Opt1.backW {x:Option (PT t)} (h:Opt1 t T w' (Kx (Kx K w0.heap.size L) w.heap.size P) v x) (hW:Wd w0 w L):Opt1 t T w' (Kx K w0.heap.size (P ++ L)) v x:=by
  rcases h with h | ⟨b,y,h1,h2,h3⟩
  · exact .inl h
  · exact .inr ⟨b,y,h1,h2,h3.backW hW⟩
theorem Opt1.fr (P LO:List (Option Nat)) {x:Option (PT t)} (h:Opt1 t T w (Kx K n (P ++ LO)) v x):Opt1 t T w (Kx K n P) v x:=by
  rcases h with h | ⟨b,y,h1,h2,h3⟩
  · exact .inl h
  · exact .inr ⟨b,y,h1,h2,h3.less (List.sublist_append_left _ _)⟩
theorem Opt1.open {α:Type} {f:α → PT t} {r:Option α} (h:Opt1 t T w K v (r.map f)):(v = .pointer .none ∧ r = .none) ∨ ∃ b y,v = pB b ∧ r = some y ∧ Bx t T w K b (f y):=by
  rcases h with ⟨h1,h2⟩ | ⟨b,y,h1,h2,h3⟩
  · cases r with
    | none=>exact .inl ⟨h1,rfl⟩
    | some z=>cases h2
  · cases r with
    | none=>cases h2
    | some z=>exact .inr ⟨b,z,h1,rfl,by cases h2;exact h3⟩
theorem Opt1.nil:Opt1 t T w K (.pointer .none) .none:=.inl ⟨rfl,rfl⟩
theorem Opt1.bx {x:PT t} (h:Bx t T w K b x):Opt1 t T w K (pB b) (some x):=.inr ⟨b,x,rfl,rfl,h⟩
end
section
variable {ds:List Deferred} {N:Nat} {a:Act} {l:List (Nat × Value)} {w w0:World} {P:Program} {ops:Array Oper} {Q:Exit → Act → World → Prop} {rest:List Oper} {o:Oper} {Kont:Act → World → Prop} {d:Nat}
def f_k (P:Program) (T:TypeId):Bool:=match P.underlying T with | some (.pointer _)=>true | _=>false
theorem c_2 {T:TypeId} (ht:f_k P T = true) (A:Option Addr):(Op.equal T (.pointer A) (.pointer .none)).run P w = .ok A.isNone w:=by
  unfold f_k at ht
  split at ht
  · rename_i hu
    show (Op.equalIn (9999 + 1) T (.pointer A) (.pointer .none)).run P w = _
    rw [Op.equalIn]
    simp only [Sem.run_bind,run_underlying hu,Result.andThen_ok]
    cases A <;> rfl
  · cases ht
theorem c_r (S:StD ds N a l) {T T':TypeId} {x y:Operand} {A:Addr} (ho:o.op = .binOp .eql T x y T') (ht:f_k P T = true) (hd:o.dst = some d) (hN:Nat.blt d N = true)
    (hx:ev l x = some (.pointer (some A))) (hy:ev l y = some (.pointer .none)) (k:∀ a',StD ds N a' ((d,.bool false) :: l) → Kont a' w):o.wp P a w Kont Q:=by
  refine a_w S hd hN ?_ k
  simp [execOp,ho,S.eval hx,S.eval hy,eqGuard,binOp,c_2 ht]
theorem e_9 (S:StD ds N a l) {T T':TypeId} {x y:Operand} (ho:o.op = .binOp .eql T x y T') (ht:f_k P T = true) (hd:o.dst = some d) (hN:Nat.blt d N = true)
    (hx:ev l x = some (.pointer .none)) (hy:ev l y = some (.pointer .none)) (k:∀ a',StD ds N a' ((d,.bool true) :: l) → Kont a' w):o.wp P a w Kont Q:=by
  refine a_w S hd hN ?_ k
  simp [execOp,ho,S.eval hx,S.eval hy,eqGuard,binOp,c_2 ht]
theorem f_a (S:StD ds N a l) {T T':TypeId} {x y:Operand} {A:Addr} (ho:o.op = .binOp .neq T x y T') (ht:f_k P T = true) (hd:o.dst = some d) (hN:Nat.blt d N = true)
    (hx:ev l x = some (.pointer (some A))) (hy:ev l y = some (.pointer .none)) (k:∀ a',StD ds N a' ((d,.bool true) :: l) → Kont a' w):o.wp P a w Kont Q:=by
  refine a_w S hd hN ?_ k
  simp [execOp,ho,S.eval hx,S.eval hy,eqGuard,binOp,c_2 ht]
end
end Go.Proofs.YtlfgpmcohfaabaaGreatDoor
namespace Go.Proofs.YtlfgpmcohfaabaaGreatDoor
open Go.RowKit
def a_F (m:Nat):List Nat → Array Bool
  | []=>Array.replicate m false
  | i :: D=>(a_F m D).setIfInBounds i true
def An (P:Program) (l:List Oper) (Q:Exit → Act → World → Prop) (m k:Nat) (D:List Nat) (a:Act) (w:World):Prop:=wpAny P .any l.toArray Q k (a_F m D) a w
def e_O (P:Program) (l:List Oper) (Q:Exit → Act → World → Prop) (m k:Nat) (D:List Nat) (a:Act) (w:World) (i:Nat):Prop:=wpOp P l.toArray Q i (fun a' w'=>An P l Q m k (i :: D) a' w') a w
def AnForks (P:Program) (l:List Oper) (Q:Exit → Act → World → Prop) (m k:Nat) (D:List Nat) (a:Act) (w:World):List Nat → Prop
  | []=>True
  | i :: is=>e_O P l Q m k D a w i ∧ AnForks P l Q m k D a w is
theorem AnForks.get {P:Program} {l:List Oper} {Q:Exit → Act → World → Prop} {m k:Nat} {D:List Nat} {a:Act} {w:World}:∀ {is:List Nat},AnForks P l Q m k D a w is → ∀ i ∈ is,e_O P l Q m k D a w i
  | j :: is,h,i,hi=>by
    rcases List.mem_cons.1 hi with rfl | hi
    · exact h.1
    · exact AnForks.get h.2 i hi
def PanicOk (Q:Exit → Act → World → Prop):Prop:=∀ c (a a':Act) w,a.defers = a'.defers → Q (.panic c) a w → Q (.panic c) a' w
theorem PanicOk.put {Q:Exit → Act → World → Prop} (h:PanicOk Q):∀ c d v a w,Q (.panic c) (a.put d v) w → Q (.panic c) a w:=fun c d v a w=>h c _ _ w (by cases d <;> rfl)
theorem b_Z {P:Program} {fn:Func} {R:Ending → World → Prop}:PanicOk (bodyPost P fn R):=fun _ _ _ _ hd h=>⟨hd ▸ h.1,h.2⟩
theorem b_0 {K:Act → World → Prop} {Q:Exit → Act → World → Prop} (h:PanicOk Q):PanicOk (Exit.then K Q):=fun c a a' w hd hq=>h c a a' w hd hq
theorem c_B {id:Nat} {Q:Exit → Act → World → Prop} (h:PanicOk Q):PanicOk (Exit.inBlock id Q):=fun c a a' w hd hq=>h c a a' w hd hq
def b_j (l:List Oper) (m:Nat):List Nat → List Nat → Bool
  | _,[]=>true
  | D,i :: is=>Region.free .any l.toArray (a_F m D) i && (Region.ready .any l.toArray (a_F m D)).contains i && b_j l m (i :: D) is
section
variable {ds:List Deferred} {N:Nat} {a:Act} {l0 l1:List (Nat × Value)} {w:World} {P:Program} {l:List Oper} {Q:Exit → Act → World → Prop} {o:Oper} {m k i:Nat} {D:List Nat}
theorem b_K {id:Nat} (m:Nat) (hm:P.follows .mixedOrders = true) (hl:l.length = m) (hQ:PanicOk Q) (h:∀ w',Below w.heap.size w w' → PanicOk Q → An P l Q m m [] a w'):(Code.region id l.toArray true).wp P Q a w:=by
  subst hl
  refine wp_region_any hm ?_
  have:=h { w with drawn:=w.drawn + 1 } ⟨rfl,rfl,rfl,Nat.le_refl _,fun _ _=>rfl⟩ hQ
  simpa [An,a_F] using this
theorem a_Z (hr:Region.ready .any l.toArray (a_F m D) = []) (h:Q .normal a w):An P l Q m k D a w:=by
  unfold An
  cases k with
  | zero=>exact ⟨hr,h⟩
  | succ k=>exact ⟨fun _=>h,fun i hi=>by rw [hr] at hi;cases hi⟩
theorem a_X {is:List Nat} (hr:Region.ready .any l.toArray (a_F m D) = is) (hne:is.isEmpty = false) (h:AnForks P l Q m k D a w is):An P l Q m (k + 1) D a w:=by
  unfold An
  refine ⟨fun he=>?_,fun i hi=>?_⟩
  · rw [hr] at he;subst he;cases hne
  · rw [hr] at hi
    exact h.get i hi
theorem a_x (ho:l[i]? = some o) (S:StD ds N a l0) (hg:gOk l.toArray l0 o = some true) (h:o.wp P a w (fun a' w'=>An P l Q m k (i :: D) a' w') Q):e_O P l Q m k D a w i:=by
  unfold e_O wpOp
  have ho':l.toArray[i]? = some o:=by simpa using ho
  simp only [ho']
  rw [if_pos (gOk.wanted S hg)]
  exact .inl h
theorem a_M (hr:Region.ready .any l.toArray (a_F m D) = [i]) (ho:l[i]? = some o) (S:StD ds N a l0) (hg:gOk l.toArray l0 o = some true) (h:o.wp P a w (fun a' w'=>An P l Q m k (i :: D) a' w') Q):An P l Q m (k + 1) D a w :=
  a_X hr rfl ⟨a_x ho S hg h,trivial⟩
theorem a_J (tys:List (TypeId × GT)) (ht:tysOk P tys = true) (hs:Region.noSelect l.toArray = true) (hQ:PanicOk Q):∀ (is:List Nat) {D:List Nat} {a:Act} {l0:List (Nat × Value)},StD ds N a l0 → b_j l m D is = true → a_o tys l.toArray N (is.filterMap (l[·]?)) l0 = some l1 → (∀ a',StD ds N a' l1 → An P l Q m k (is.reverse ++ D) a' w) → An P l Q m (k + is.length) D a w
  | [],D,a,l0,S,_,hp,h=>by
    simp only [List.filterMap_nil,a_o,Option.some.injEq] at hp
    subst hp
    exact h a S
  | i :: is,D,a,l0,S,hc,hp,h=>by
    simp only [b_j,Bool.and_eq_true] at hc
    obtain ⟨⟨hf,hr⟩,hc⟩:=hc
    have hi:i ∈ Region.ready .any l.toArray (a_F m D):=by simpa using hr
    obtain ⟨_,o,ho,_⟩:=mem_ready.1 hi
    have ho':l[i]? = some o:=by simpa using ho
    rw [List.filterMap_cons_some ho'] at hp
    have h':∀ a',StD ds N a' l1 → An P l Q m k (is.reverse ++ (i :: D)) a' w:=fun a' S'=>by
      have:=h a' S'
      simpa using this
    have fin:∀ (v:Value) (l2:List (Nat × Value)),Yields P l.toArray o v a → StD ds N (a.put o.dst v) l2 → a_o tys l.toArray N (is.filterMap (l[·]?)) l2 = some l1 → An P l Q m (k + (is.length + 1)) D a w:=fun v l2 hy S2 hp2 =>
      wpAny_first ho (Region.noSelect_spec hs) (fun c a w=>hQ.put c o.dst v a w) (k + is.length) (a_F m D) a w (Region.free_spec ho hf) hi hy (a_J tys ht hs hQ is S2 hc hp2 h')
    unfold a_o at hp
    split at hp
    · rename_i d hg hd
      split at hp
      · rename_i v hv
        split at hp
        · rename_i hN
          exact fin v _ (.inl ⟨gOk.wanted S hg,fun w=>d_y S o tys ht hv⟩) (by rw [hd];exact S.put (by simpa [Nat.blt_eq] using hN) v) hp
        · cases hp
      · cases hp
    · rename_i d hg hd
      split at hp
      · rename_i hN
        exact fin undef _ (.inr ⟨gOk.wanted S hg,rfl⟩) (by rw [hd];exact S.put (by simpa [Nat.blt_eq] using hN) undef) hp
      · cases hp
    · rename_i hg hd
      exact fin undef _ (.inr ⟨gOk.wanted S hg,rfl⟩) (by rw [hd];exact S) hp
    · cases hp
end
inductive DeadS {α:Type}:Sem α → Prop
  | prog (k:Program → Sem α):(∀ p,DeadS (k p)) → DeadS (.program k)
  | halt (h:Halt):DeadS (.halt h)
  | choose (q:Question) (k:Nat → Sem α):(∀ n,DeadS (k n)) → DeadS (.choose q k)
inductive WlS {α:Type}:Sem α → Prop
  | pure (a:α):WlS (.pure a)
  | prog (k:Program → Sem α):(∀ p,WlS (k p)) → WlS (.program k)
  | dead (m:Sem α):DeadS m → WlS m
theorem DeadS.bind {α β:Type} {m:Sem α} (h:DeadS m) (f:α → Sem β):DeadS (m >>= f):=by
  induction h with
  | prog k _ ih=>exact .prog _ ih
  | halt h=>exact .halt h
  | choose q k _ ih=>exact .choose q _ ih
theorem WlS.bind {α β:Type} {m:Sem α} {f:α → Sem β} (h:WlS m) (hf:∀ a,WlS (f a)):WlS (m >>= f):=by
  induction h with
  | pure a=>exact hf a
  | prog k _ ih=>exact .prog _ ih
  | dead m hd=>exact .dead _ (hd.bind f)
theorem DeadS.run {α:Type} {m:Sem α} (h:DeadS m) (P:Program):∀ w x w1,m.run P w ≠ .ok x w1:=by
  induction h with
  | prog k _ ih=>intro w x w1;exact ih P w x w1
  | halt h=>intro w x w1 e;cases e
  | choose q k _ ih =>
    intro w x w1 e
    simp only [Sem.run] at e
    split at e
    · exact ih _ _ _ _ e
    · exact ih _ _ _ _ e
theorem WlS.run {α:Type} {m:Sem α} (h:WlS m) (P:Program):∀ w w' x w1,m.run P w = .ok x w1 → w1 = w ∧ m.run P w' = .ok x w':=by
  induction h with
  | pure a=>intro w w' x w1 e;simp only [Sem.run,Result.ok.injEq] at e ⊢;exact ⟨e.2.symm,e.1,trivial⟩
  | prog k _ ih=>intro w w' x w1 e;exact ih P w w' x w1 e
  | dead m hd=>intro w w' x w1 e;exact absurd e (hd.run P w x w1)
theorem WlS.program:WlS Go.program:=.prog _ fun p=>.pure p
theorem DeadS.wbind {α β:Type} {m:Sem α} {f:α → Sem β} (h:WlS m) (hf:∀ a,DeadS (f a)):DeadS (m >>= f):=by
  induction h with
  | pure a=>exact hf a
  | prog k _ ih=>exact .prog _ ih
  | dead m hd=>exact hd.bind f
theorem DeadS.bounds {α:Type} (x y:Int) (s:Bool) (c:BoundsCode):DeadS (Go.runtimePanic (.bounds x y s c):Sem α):=by
  unfold Go.runtimePanic
  exact DeadS.wbind WlS.program fun p=>.halt _
theorem DeadS.boundsPanic {α:Type} (k:IntKind) (x y:Int) (c:BoundsCode):DeadS (Go.boundsPanic k x y c:Sem α):=by
  unfold Go.boundsPanic
  split
  · exact .choose _ _ fun n=>DeadS.bounds _ _ _ _
  · exact DeadS.bounds _ _ _ _
theorem WlS.typeInfo (t:TypeId):WlS (Go.typeInfo t):=by
  unfold Go.typeInfo
  refine WlS.bind WlS.program fun p=>?_
  split
  · exact .pure _
  · exact .dead _ (.halt _)
theorem WlS.underlying (t:TypeId):WlS (Go.underlying t):=by
  unfold Go.underlying
  refine WlS.bind WlS.program fun p=>?_
  split
  · exact .pure _
  · exact .dead _ (.halt _)
theorem WlS.sizeOf (t:TypeId):WlS (Go.sizeOf t):=WlS.bind (WlS.typeInfo t) fun _=>.pure _
theorem WlS.asIntOf (v:Value):WlS (Go.asIntOf v):=by
  unfold Go.asIntOf
  split
  · exact .pure _
  · exact .dead _ (.halt _)
  · exact .dead _ (.halt _)
theorem WlS.sliceBound (x:Value) (y:Nat) (c:BoundsCode):WlS (Instr.sliceBound x y c):=by
  unfold Instr.sliceBound
  refine WlS.bind (WlS.asIntOf x) fun p=>?_
  obtain ⟨k,i⟩:=p
  simp only
  split
  · exact .pure _
  · exact .dead _ (DeadS.boundsPanic _ _ _ _)
theorem DeadS.nilDeref {α:Type}:DeadS (Go.runtimePanic .nilDeref:Sem α):=by
  unfold Go.runtimePanic
  exact DeadS.wbind WlS.program fun p=>.halt _
theorem WlS.sureAddr (v:Value):WlS (Instr.sureAddr v):=by
  unfold Instr.sureAddr
  split
  · exact .pure _
  · exact .dead _ (.halt _)
theorem WlS.asAddr (v:Value):WlS (Go.asAddr v):=by
  unfold Go.asAddr
  split
  · exact .pure _
  · exact .dead _ DeadS.nilDeref
  · exact .dead _ (.halt _)
theorem WlS.sliceBounds (b:Bool) (len cap:Nat) (lo hi mx:Option Value):WlS (Instr.sliceBounds b len cap lo hi mx):=by
  unfold Instr.sliceBounds
  dsimp only
  repeat' (first | exact WlS.pure _ | exact WlS.dead _ (.halt _) | exact WlS.sliceBound _ _ _ | refine WlS.bind ?_ fun _=>?_ | split)
theorem WlS.slice (t:TypeId) (x:Value) (lo hi mx:Option Value):WlS (Instr.slice t x lo hi mx):=by
  unfold Instr.slice
  dsimp only
  repeat' (first | exact WlS.pure _ | exact WlS.dead _ (.halt _) | exact WlS.sliceBounds _ _ _ _ _ _ | exact WlS.underlying _ | exact WlS.sizeOf _ | exact WlS.asAddr _ | refine WlS.bind ?_ fun _=>?_ | split)
theorem WlS.sliceAt (t:TypeId) (x:Value) (lo hi mx:Option Value):WlS (Instr.sliceAt t x lo hi mx):=by
  unfold Instr.sliceAt
  dsimp only
  repeat' (first | exact WlS.pure _ | exact WlS.dead _ (.halt _) | exact WlS.slice _ _ _ _ _ | exact WlS.sliceBounds _ _ _ _ _ _ | exact WlS.underlying _ | exact WlS.sizeOf _ | exact WlS.sureAddr _ | refine WlS.bind ?_ fun _=>?_ | split)
theorem WlS.indexAt (t:TypeId) (x i:Value):WlS (Instr.indexAt t x i):=by
  unfold Instr.indexAt
  dsimp only
  repeat' (first | exact WlS.pure _ | exact WlS.dead _ (.halt _) | exact WlS.dead _ (DeadS.boundsPanic _ _ _ _) | exact WlS.asIntOf _ | exact WlS.underlying _ | exact WlS.sizeOf _ | exact WlS.sureAddr _ | refine WlS.bind ?_ fun _=>?_ | split)
def wlB:Op → Bool
  | .slice _ _ _ _ _=>true
  | .indexAddr _ _ _=>true
  | _=>false
theorem wlV {P:Program} {m:Sem Value} (h:WlS m) {w w1:World} {n:Next} (hr:(m >>= fun v=>(Pure.pure (Next.value v):Sem Next)).run P w = .ok n w1):w1 = w ∧ (∃ v,n = .value v) ∧ ∀ w',(m >>= fun v=>(Pure.pure (Next.value v):Sem Next)).run P w' = .ok n w':=by
  have hw:=WlS.bind h (f:=fun v=>(Pure.pure (Next.value v):Sem Next)) fun v=>.pure _
  refine ⟨(hw.run P w w n w1 hr).1,?_,fun w'=>(hw.run P w w' n w1 hr).2⟩
  rw [Sem.run_bind] at hr
  cases hq:m.run P w with
  | ok v w2 =>
    rw [hq] at hr
    exact ⟨v,by
      have:(Result.ok (Next.value v) w2:Result Next) = .ok n w1:=hr
      injection this with h1 _;exact h1.symm⟩
  | halt x w2=>rw [hq] at hr;cases hr
theorem wl_run {P:Program} {o:Oper} {ρ:Operand → Value} (h:wlB o.op = true) {w w1:World} {n:Next} (hr:(execOp ρ o).run P w = .ok n w1):w1 = w ∧ (∃ v,n = .value v) ∧ ∀ w',(execOp ρ o).run P w' = .ok n w':=by
  unfold execOp at hr ⊢
  cases hop:o.op <;> rw [hop] at h <;> first | (exfalso;simp [wlB] at h;done) | skip
  all_goals
    rw [hop] at hr
    simp only at hr ⊢
  · exact wlV (WlS.sliceAt _ _ _ _ _) hr
  · exact wlV (WlS.indexAt _ _ _) hr
section
variable {ds:List Deferred} {N:Nat} {a:Act} {l0 l1:List (Nat × Value)} {w:World} {P:Program} {l:List Oper} {Q:Exit → Act → World → Prop} {o:Oper} {m k i:Nat} {D:List Nat}
end
end Go.Proofs.YtlfgpmcohfaabaaGreatDoor
namespace Go.Proofs.YtlfgpmcohfaabaaGreatDoor
open Go.RowKit
section
variable {w0 w w' A B:World} {L L' LO P Q:List (Option Nat)} {K:Nat → Prop} {n b d i:Nat} {kd:IntKind} {v v':Value} {o:Option Nat} {xs:List Int}
end
structure SetTy (P:Program) (T Tm Tk Tv:TypeId) (kd:IntKind):Prop where
  st:∃ fs f,P.underlying T = some (.struct fs) ∧ fs.toList = [f] ∧ f.type = Tm ∧ f.offset = 0
  inf:∃ i,P.info? T = some i ∧ i.size = 1 ∧ ∃ cs,i.zero = some (.agg cs) ∧ cs.toList = [.map none]
  infm:∃ i,P.info? Tm = some i ∧ i.size = 1
  mp:P.underlying Tm = some (.map Tk Tv)
  key:P.underlying Tk = some (.int kd)
  inv:∃ i,P.info? Tv = some i ∧ i.zero = some (.bool false)
def isMp (d:Option TypeDesc) (Tk Tv:TypeId):Bool:=match d with | some (.map k v)=>Nat.beq k Tk && Nat.beq v Tv | _=>false
def isIn (d:Option TypeDesc) (kd:IntKind):Bool:=match d with | some (.int k)=>decide (k = kd) | _=>false
section
variable {ds:List Deferred} {N:Nat} {a:Act} {l:List (Nat × Value)} {w w0:World} {P:Program} {ops:Array Oper} {Q:Exit → Act → World → Prop} {rest:List Oper} {o:Oper} {Kont:Act → World → Prop} {d:Nat} {T Tm Tk Tv:TypeId} {kd:IntKind}
theorem b_k (e:Bool) (hk:P.underlying Tk = some (.int kd)) (z:Int):(Instr.checkKey e 10000 Tk (.int kd z)).run P w = .ok () w:=by
  show (Instr.checkKey e (9999 + 1) Tk (.int kd z)).run P w = _
  rw [Instr.checkKey]
  simp [run_underlying hk]
end
end Go.Proofs.YtlfgpmcohfaabaaGreatDoor
namespace Go.Proofs.YtlfgpmcohfaabaaGreatDoor
open Go.RowKit Go.ChangeShapes
abbrev Kw (K:Nat → Prop) (w:World) (L:List (Option Nat)):Nat → Prop:=Kx K w.heap.size L
abbrev TB:Type:=Int × Int × Sl Int × Int
section
variable {dd:List Deferred} {N:Nat} {a:Act} {l:List (Nat × Value)} {w w0:World} {P:Program} {ops:Array Oper} {Q:Exit → Act → World → Prop} {rest:List Oper} {o:Oper} {Kont:Act → World → Prop} {d:Nat} {K:Nat → Prop} {n:Nat} {L:List (Option Nat)}
theorem StD.pt (S:StD dd N a l) (d:Nat) (v:Value) (h:Nat.blt d N = true):StD dd N (a.put (some d) v) ((d,v) :: l):=S.put (by simpa using h) v
theorem RPost.o1 {tys:List (TypeId × GT)} (ht:tysOk P tys = true) {R:World → World → Prop} {f:Value → World → Prop} {A a0:Act} {l0:List (Nat × Value)} {v:Value} (S:StD dd N A l) (S0:StD dd N a0 l0) (hd:o.dst = some d) (h:(a_o tys ops N [o] l).bind (fun q=>lk q d) = some v) (hf:f v w) (hb:R w w:=by exact Below.refl _ _) :
    FillE w [] A (fun B=>wpList P ops (a_9 R o.dst f a0.defers w Q) [o] B w):=RPost.one S tys ht hd h S0.defers hf hb
end
end Go.Proofs.YtlfgpmcohfaabaaGreatDoor
namespace Go.Proofs.YtlfgpmcohfaabaaGreatDoor
open Go.RowKit Go.ChangeShapes
section
variable {dd:List Deferred} {N:Nat} {a:Act} {l:List (Nat × Value)} {w w0:World} {P:Program} {ops:Array Oper} {Q:Exit → Act → World → Prop} {rest:List Oper} {o:Oper} {Kont:Act → World → Prop} {d:Nat} {K:Nat → Prop}
theorem b_end0 (S:St N a l) {fn:Func} {R:Ending → World → Prop} (hr:fn.results = #[]) (hR:∀ v,R (.returned v) w):bodyPost P fn R .normal a w:=d_r (P:=P) S hr hR
end
end Go.Proofs.YtlfgpmcohfaabaaGreatDoor
namespace Go.Proofs.YtlfgpmcohfaabaaGreatDoor
open Go.RowKit
section
variable {w0 w w' A B:World} {L L' LO P Q:List (Option Nat)} {K:Nat → Prop} {n b d i:Nat} {φ:Obj → Prop} {v v':Value} {o:Option Nat}
end
structure MapTy (P:Program) (Tm Tk Tv:TypeId) (kd:IntKind):Prop where
  mp:P.underlying Tm = some (.map Tk Tv)
  key:P.underlying Tk = some (.int kd)
def mapTyB (P:Program) (Tm Tk Tv:TypeId) (kd:IntKind):Bool:=isMp (P.underlying Tm) Tk Tv && isIn (P.underlying Tk) kd
theorem MapTy.of {P:Program} {Tm Tk Tv:TypeId} {kd:IntKind} (h:mapTyB P Tm Tk Tv kd = true):MapTy P Tm Tk Tv kd:=by
  simp only [mapTyB,Bool.and_eq_true] at h
  obtain ⟨h4,h5⟩:=h
  refine ⟨?_,?_⟩
  · unfold isMp at h4
    split at h4
    · rename_i k v hu
      simp only [Bool.and_eq_true,Nat.beq_eq] at h4
      rw [hu,h4.1,h4.2]
    · cases h4
  · unfold isIn at h5
    split at h5
    · rename_i k hu
      rw [hu,of_decide_eq_true h5]
    · cases h5
section
variable {ds:List Deferred} {N:Nat} {a:Act} {l:List (Nat × Value)} {w w0:World} {P:Program} {ops:Array Oper} {Q:Exit → Act → World → Prop} {rest:List Oper} {o:Oper} {Kont:Act → World → Prop} {d:Nat} {Tm Tk Tv:TypeId} {kd:IntKind}
end
theorem d_X:∀ (n:Nat) {l:List Nat},l.Nodup → (∀ k ∈ l,k < n) → l.length ≤ n
  | 0,l,_,h=>by
    cases l with
    | nil=>simp
    | cons x xs=>exact absurd (h x (by simp)) (by omega)
  | n + 1,l,hn,h=>by
    have h1:=d_X n (l:=l.filter (· ≠ n)) (hn.sublist List.filter_sublist) fun k hk=>by
      have:=h k (List.mem_filter.1 hk).1
      have h2:=(List.mem_filter.1 hk).2
      simp at h2
      omega
    have h2:l.length ≤ (l.filter (· ≠ n)).length + 1:=by
      by_cases hm:n ∈ l
      · obtain ⟨p,q,rfl⟩:=List.append_of_mem hm
        have hp:n ∉ p ∧ n ∉ q:=by
          rw [List.nodup_append] at hn
          refine ⟨fun hp=>hn.2.2 n hp n (by simp) rfl,?_⟩
          have:=hn.2.1
          rw [List.nodup_cons] at this
          exact this.1
        have e1:p.filter (· ≠ n) = p:=List.filter_eq_self.2 fun x hx=>by simp;exact fun h=>hp.1 (h ▸ hx)
        have e2:q.filter (· ≠ n) = q:=List.filter_eq_self.2 fun x hx=>by simp;exact fun h=>hp.2 (h ▸ hx)
        rw [List.filter_append,List.filter_cons,e1,e2]
        simp
        omega
      · have e1:l.filter (· ≠ n) = l:=List.filter_eq_self.2 fun x hx=>by simp;exact fun h=>hm (h ▸ hx)
        rw [e1];omega
    omega
section
variable {ds:List Deferred} {N:Nat} {a:Act} {l:List (Nat × Value)} {w w0:World} {P:Program} {ops:Array Oper} {Q:Exit → Act → World → Prop} {rest:List Oper} {o:Oper} {Kont:Act → World → Prop} {d:Nat} {K:Nat → Prop} {L:List (Option Nat)}
theorem op_boxp (S:StD ds N a l) {T:TypeId} {x:Operand} {r:Option Addr} (ho:o.op = .box T x) (hd:o.dst = some d) (hN:Nat.blt d N = true) (hx:ev l x = some (.pointer r))
    (k:∀ a' w' b,NewB w w' b → Ox (.cells #[.pointer r] T (0,0)) w' b → StD ds N a' ((d,.pointer (some ⟨b,0,.none⟩)) :: l) → Kont a' w'):o.wp P a w Kont Q:=by
  refine a_w S (v:=.pointer (some ⟨w.heap.size,0,.none⟩)) (w':=w.alloc (.cells #[.pointer r] T)) hd hN ?_ fun a'=>k a' _ w.heap.size (a_R w _) ⟨heap_alloc_new w _,trivial⟩
  simp [execOp,ho,S.eval hx,Instr.box,newVar,newRow,Value.cells]
theorem b_n (S:StD ds N a l) {T T':TypeId} {ad:Operand} {v:Value} {b:Nat} (ho:o.op = .load T ad) (ht:f_k P T = true) (hd:o.dst = some d) (hN:Nat.blt d N = true) (ha:ev l ad = some (.pointer (some ⟨b,0,.none⟩)))
    (hO:Ox (.cells #[v] T' (0,0)) w b) (k:∀ a',StD ds N a' ((d,v) :: l) → Kont a' w):o.wp P a w Kont Q:=by
  refine a_w S (v:=v) hd hN ?_ k
  have hc:w.cell? ⟨b,0,.none⟩ = some v:=by unfold World.cell?;rw [hO.1];rfl
  unfold f_k at ht
  split at ht
  · rename_i hu
    simp [execOp,ho,S.eval ha,Instr.loadAt,Instr.sureAddr,loadVar,isAgg,run_underlying hu,hc]
  · cases ht
theorem RepAt.sl {m:Nat} {e:GT} {p:Addr} {xs:List (PT e)} (R:RepAt (.arr m e) w K p xs) (hb:p.block < w.heap.size) (hK:K p.block) (hm:m ≤ 9223372036854775807):RepV (.sl e) w K (.slice (some p) m m) (⟨xs,some m⟩:Sl (PT e)):=by
  obtain ⟨h0,cs,⟨hx,css,rfl,hl,hr⟩,hc⟩:=R
  obtain ⟨b,off,sp⟩:=p
  have h0:sp = .none:=h0
  subst h0
  have key:∀ (css:List (List Value)) (ys:List (PT e)),css.length = ys.length → (∀ (j:Nat) c y,css[j]? = some c → ys[j]? = some y → RepCs e w K c y) → ∀ (j:Nat) (c:List Value),css[j]? = some c → ∀ (i:Nat) (v:Value),c[i]? = some v → css.flatten[j * e.sz + i]? = some v:=by
    intro css
    induction css with
    | nil=>intro ys _ _ j c hj;simp at hj
    | cons c0 css ih =>
      intro ys hly hh j c hj i v hi
      match ys,hly with
      | y0 :: ys,hly =>
        have hlen:c0.length = e.sz:=RepCs.len (hh 0 c0 y0 rfl rfl)
        have hi':i < c.length:=by rcases Nat.lt_or_ge i c.length with h | h;exact h;rw [List.getElem?_eq_none h] at hi;cases hi
        cases j with
        | zero =>
          obtain rfl:c0 = c:=by simpa using hj
          rw [List.flatten_cons,Nat.zero_mul,Nat.zero_add,List.getElem?_append_left hi',hi]
        | succ j =>
          have hj':css[j]? = some c:=by simpa using hj
          have:=ih ys (by simpa using hly) (fun j c y h1 h2=>hh (j + 1) c y (by simpa using h1) (by simpa using h2)) j c hj' i v hi
          rw [List.flatten_cons,List.getElem?_append_right (by rw [hlen,Nat.add_mul];omega),hlen,← this]
          congr 1
          rw [Nat.add_mul];omega
  refine ⟨[_],⟨_,_,_,rfl,hx,Nat.le_refl _,hm,fun k hk=>by simpa using hk,?_⟩,rfl⟩
  refine .inr ⟨b,off,rfl,hb,hK,fun j x hj=>?_⟩
  have hjl:j < css.length:=by
    rcases Nat.lt_or_ge j xs.length with h | h
    · omega
    · rw [List.getElem?_eq_none h] at hj;cases hj
  have hcj:=List.getElem?_eq_getElem hjl
  have hR:=hr j _ x hcj hj
  refine ⟨css[j],hR,hR.len,fun i v hv=>?_⟩
  have:=hc (j * e.sz + i) v (key css xs (by omega) hr j _ hcj i v hv)
  rw [← this]
  congr 1
  show (⟨b,off + j * e.sz + i,.none⟩:Addr) = ⟨b,off + (j * e.sz + i),.none⟩
  rw [Nat.add_assoc]
theorem d_Y (S:StD ds N a l) {T:TypeId} {x:Operand} {m:Nat} {e:GT} {p:Addr} {xs:List (PT e)} (ho:o.op = .slice T x .none .none .none) (ht:tiQ P (.arr m e) false T [] 0 = true) (hd:o.dst = some d) (hN:Nat.blt d N = true)
    (hx:ev l x = some (.pointer (some p))) (R:RepAt (.arr m e) w K p xs) (hb:p.block < w.heap.size) (hK:K p.block) (hm:m ≤ 9223372036854775807)
    (k:∀ a' v,RepV (.sl e) w K v (⟨xs,some m⟩:Sl (PT e)) → StD ds N a' ((d,v) :: l) → Kont a' w):o.wp P a w Kont Q:=by
  obtain ⟨E,hE,htE⟩:=b_A ht
  obtain ⟨ie,hie,hse⟩:=a_G htE
  refine a_w S (v:=.slice (some p) m m) hd hN ?_ fun a'=>k a' _ (R.sl hb hK hm)
  have hp:p.add 0 = p:=by cases p;rfl
  by_cases h0:m = 0
  · subst h0;simp [execOp,ho,S.eval hx,Instr.sliceAt,Instr.sliceBounds,run_underlying hE,sizeOf,typeInfo,hie,hse,Instr.sureAddr]
  · simp [execOp,ho,S.eval hx,Instr.sliceAt,Instr.sliceBounds,run_underlying hE,sizeOf,typeInfo,hie,hse,Instr.sureAddr]
    exact fun _=>hp
theorem Pr.kk {t:GT} {p:Addr} {x:PT t} (h:Pr t w0 K p x) (W:Wd w0 w L):Kx K w0.heap.size L p.block:=⟨.inl h.2.2,fun hm=>by have:=(W.own _ hm).1;have:=h.2.1;omega⟩
theorem Pr.lt' {t:GT} {p:Addr} {x:PT t} (h:Pr t w0 K p x) (W:Wd w0 w L):p.block < w.heap.size:=by have:=W.below.size;have:=h.2.1;omega
theorem Pr.br' {t:GT} {p:Addr} {x:PT t} (h:Pr t w K p x):Br t w K p x:=⟨h.1,h.2.1⟩
end
namespace R
section
variable {r:Option Nat} {P:Program} {Q:Exit → Act → World → Prop} {a:Act} {w:World}
end
end R
end Go.Proofs.YtlfgpmcohfaabaaGreatDoor
namespace Go.Proofs.YtlfgpmcohfaabaaGreatDoor
open Go.RowKit Go.ChangeShapes
section
variable {P:Program}
end
section
variable {ds:List Deferred} {N:Nat} {a:Act} {l:List (Nat × Value)} {w w0:World} {P:Program} {ops:Array Oper} {Q:Exit → Act → World → Prop} {rest:List Oper} {o:Oper} {Kont:Act → World → Prop} {d:Nat} {K:Nat → Prop} {L:List (Option Nat)}
end
section
variable {w0 w w':World} {L P:List (Option Nat)} {K:Nat → Prop} {n b:Nat} {t:GT} {v:Value} {T:TypeId} {x:PT t}
theorem Pr.again {p:Addr} (h:Pr t w0 K p x) (W:Wd w0 w L):Pr t w (Kx K w0.heap.size L) p x:=⟨Br.now h.br' W,h.lt' W,h.kk W⟩
end
def b_w (i:Nat) (o:Oper):Oper:={ o with after:=o.after.push ⟨i,.data⟩ }
def d_D:Op → Bool
  | .extract _ _=>true
  | .move _=>true
  | .assign _=>true
  | _=>false
def depL (l:List Oper) (i:Nat):Array Bool:=((List.range l.length).map fun k=>match l[i]? with
  | some o=>o.after.any fun e=>Region.binds .any e && Nat.beq e.on k
  | none=>false).toArray
def edgeB (l:List Oper) (i j:Nat):Bool :=
  Nat.blt i l.length && Nat.blt j l.length && (!Nat.beq i j) && Region.free .any l.toArray (depL l i) i && Region.noSelect l.toArray &&
  match l[i]?,l[j]? with
  | some oi,some oj=>d_D oi.op && oi.after.all fun e=>!Region.binds .any e || oj.after.any fun e'=>Region.binds .any e' && Nat.beq e'.on e.on
  | _,_=>false
section
variable {P:Program} {Q:Exit → Act → World → Prop} {l:List Oper} {i j k:Nat} {a:Act} {w:World} {K:Act → World → Prop} {listed:Array Bool}
theorem c_3:(l.modify j (b_w i)).toArray[k]? = (l.toArray[k]?).map fun o=>if j = k then b_w i o else o:=by
  simp only [List.getElem?_toArray,List.getElem?_modify]
  by_cases h:j = k <;> simp [h]
theorem d_E (tmps:Array Value):yielded (l.modify j (b_w i)).toArray tmps = yielded l.toArray tmps:=by
  funext k
  unfold yielded
  rw [c_3]
  cases l.toArray[k]? with
  | none=>rfl
  | some o=>by_cases h:j = k <;> simp [h,b_w]
theorem c_s:wpOp P (l.modify j (b_w i)).toArray Q k K a w = wpOp P l.toArray Q k K a w:=by
  unfold wpOp
  rw [c_3,d_E]
  cases l.toArray[k]? with
  | none=>rfl
  | some o=>by_cases h:j = k <;> simp only [h,if_true,if_false,Option.map_some] <;> rfl
theorem ready_addOn:k ∈ Region.ready .any (l.modify j (b_w i)).toArray listed ↔ k ∈ Region.ready .any l.toArray listed ∧ (k = j → listed.getD i false = true):=by
  rw [mem_ready,mem_ready,c_3]
  constructor
  · rintro ⟨h1,o,ho,h2⟩
    obtain ⟨o',ho',rfl⟩:=Option.map_eq_some_iff.1 ho
    by_cases h:j = k
    · rw [if_pos h] at h2
      refine ⟨⟨h1,o',ho',fun e he hb=>h2 e (by simp [b_w,he]) hb⟩,fun _=>h2 ⟨i,.data⟩ (by simp [b_w]) rfl⟩
    · rw [if_neg h] at h2
      exact ⟨⟨h1,o',ho',h2⟩,fun e=>absurd e.symm h⟩
  · rintro ⟨⟨h1,o,ho,h2⟩,h3⟩
    refine ⟨h1,if j = k then b_w i o else o,by rw [ho];rfl,fun e he hb=>?_⟩
    by_cases h:j = k
    · rw [if_pos h] at he
      simp only [b_w,Array.mem_push] at he
      rcases he with he | rfl
      · exact h2 e he hb
      · exact h3 h.symm
    · rw [if_neg h] at he
      exact h2 e he hb
theorem getD_keep (h:listed.getD i false = true) (k:Nat):(listed.setIfInBounds k true).getD i false = true:=by
  simp only [Array.getD_eq_getD_getElem?,Array.getElem?_setIfInBounds] at h ⊢
  by_cases hk:k = i
  · subst hk
    rcases Nat.lt_or_ge k listed.size with h' | h'
    · simp [h']
    · rw [Array.getElem?_eq_none h'] at h;cases h
  · rw [if_neg hk];exact h
theorem c_t:∀ (fuel:Nat) (listed:Array Bool) (a:Act) (w:World),listed.getD i false = true → wpAny P .any (l.modify j (b_w i)).toArray Q fuel listed a w → wpAny P .any l.toArray Q fuel listed a w
  | 0,listed,a,w,hi,h=>by
    refine ⟨?_,h.2⟩
    cases hr:Region.ready .any l.toArray listed with
    | nil=>rfl
    | cons k ks =>
      have:k ∈ Region.ready .any (l.modify j (b_w i)).toArray listed:=ready_addOn.2 ⟨by rw [hr];simp,fun _=>hi⟩
      rw [h.1] at this;cases this
  | fuel + 1,listed,a,w,hi,h=>by
    refine ⟨fun hr=>h.1 ?_,fun k hk=>?_⟩
    · cases hr':Region.ready .any (l.modify j (b_w i)).toArray listed with
      | nil=>rfl
      | cons k ks =>
        have:=(ready_addOn.1 (show k ∈ Region.ready .any (l.modify j (b_w i)).toArray listed by rw [hr'];simp)).1
        rw [hr] at this;cases this
    · have:=h.2 k (ready_addOn.2 ⟨hk,fun _=>hi⟩)
      rw [c_s] at this
      exact wpOp_mono (fun a' w' h'=>c_t fuel _ a' w' (getD_keep hi k) h') this
theorem c_m {e:Event} (h:e ∈ (#[]:Array Event)):False:=by simp at h
theorem quiet_run {o:Oper} {ops:Array Oper} (hq:d_D o.op = true) (hi:ops[i]? = some o) (h:wpOp P ops Q i K a w):∃ v,Yields P ops o v a ∧ K (a.put o.dst v) w:=by
  unfold wpOp at h
  rw [hi] at h
  simp only at h
  by_cases hw:Region.wanted o (yielded ops a.tmps) = true
  · rw [if_pos hw] at h
    have key:(∃ v,∀ w,(execOp a.eval o).run P w = .ok (.value v) w) ∨ ((∀ next,¬ o.upon P a next Q ((execOp a.eval o).run P w))):=by
      cases ho:o.op <;> rw [ho] at hq <;> try (simp [d_D] at hq)
      · exact .inl ⟨_,fun w=>by simp [execOp,ho];rfl⟩
      · exact .inl ⟨_,fun w=>by simp [execOp,ho];rfl⟩
      · rename_i x n
        cases hx:a.eval x with
        | tuple vs =>
          cases hv:vs[n]? with
          | some v=>exact .inl ⟨v,fun w=>by simp [execOp,ho,hx,Instr.extract,hv]⟩
          | none=>exact .inr fun next=>by simp [execOp,ho,hx,Instr.extract,hv,stuck,Oper.upon]
        | _=>exact .inr fun next=>by simp [execOp,ho,hx,Instr.extract,stuck,Oper.upon]
    have hasks:¬ o.asks P a w:=by
      intro ⟨h1,_⟩
      cases ho:o.op <;> rw [ho] at hq <;> try (simp [d_D] at hq)
      · simp [execOp,ho] at h1
        exact c_m h1
      · simp [execOp,ho] at h1
        exact c_m h1
      · rename_i x n
        cases hx:a.eval x with
        | tuple vs =>
          cases hv:vs[n]? with
          | some v=>simp [execOp,ho,hx,Instr.extract,hv] at h1;exact c_m h1
          | none=>simp [execOp,ho,hx,Instr.extract,hv,stuck] at h1;exact c_m h1
        | _=>simp [execOp,ho,hx,Instr.extract,stuck] at h1;exact c_m h1
    rcases h with h | ⟨h,_⟩
    · rcases key with ⟨v,hv⟩ | hn
      · refine ⟨v,.inl ⟨hw,hv⟩,?_⟩
        unfold Oper.wp at h
        rw [hv] at h
        exact h
      · exact absurd h (hn _)
    · exact absurd h hasks
  · rw [if_neg hw] at h
    exact ⟨undef,.inr ⟨by simpa using hw,rfl⟩,h⟩
theorem any_addOn (hc:edgeB l i j = true) (hQ:∀ c d v a w,Q (.panic c) (a.put d v) w → Q (.panic c) a w):∀ (fuel:Nat) (listed:Array Bool) (a:Act) (w:World),listed.size = l.length → wpAny P .any (l.modify j (b_w i)).toArray Q fuel listed a w → wpAny P .any l.toArray Q fuel listed a w:=by
  unfold edgeB at hc
  simp only [Bool.and_eq_true,Bool.not_eq_true',Nat.blt_eq] at hc
  obtain ⟨⟨⟨⟨⟨hi,hj⟩,hij⟩,hfr⟩,hsel⟩,hc⟩:=hc
  have hne:i ≠ j:=fun e=>by rw [e,Nat.beq_refl] at hij;cases hij
  have hoi:l.toArray[i]? = some l[i]:=by simp [hi]
  have hoj:l.toArray[j]? = some l[j]:=by simp [hj]
  rw [List.getElem?_eq_getElem hi,List.getElem?_eq_getElem hj] at hc
  simp only [Bool.and_eq_true] at hc
  obtain ⟨hq,hdep⟩:=hc
  have hsub:∀ {listed:Array Bool},listed.getD i true = false → j ∈ Region.ready .any l.toArray listed → i ∈ Region.ready .any (l.modify j (b_w i)).toArray listed:=by
    intro listed hiu hjr
    refine ready_addOn.2 ⟨mem_ready.2 ⟨hiu,_,hoi,fun e he hb=>?_⟩,fun e=>absurd e hne⟩
    obtain ⟨_,oj,hoj',h2⟩:=mem_ready.1 hjr
    rw [hoj] at hoj'
    obtain rfl:=Option.some.inj hoj'
    have:=Array.all_eq_true'.1 hdep e he
    rw [hb] at this
    simp only [Bool.not_true,Bool.false_or] at this
    obtain ⟨e',he',h3⟩:=Array.any_eq_true'.1 this
    simp only [Bool.and_eq_true,Nat.beq_eq] at h3
    have:=h2 e' he' h3.1
    rw [h3.2] at this
    exact this
  intro fuel
  induction fuel with
  | zero =>
    intro listed a w hs h
    refine ⟨?_,h.2⟩
    cases hr:Region.ready .any l.toArray listed with
    | nil=>rfl
    | cons k ks =>
      have hk:k ∈ Region.ready .any l.toArray listed:=by rw [hr];simp
      by_cases hin:listed.getD i false = true
      · have:k ∈ Region.ready .any (l.modify j (b_w i)).toArray listed:=ready_addOn.2 ⟨hk,fun _=>hin⟩
        rw [h.1] at this;cases this
      · by_cases hkj:k = j
        · subst hkj
          have:i ∈ Region.ready .any (l.modify k (b_w i)).toArray listed:=hsub (by
            rw [Array.getD_eq_getD_getElem?] at hin ⊢
            rw [Array.getElem?_eq_getElem (by omega)] at hin ⊢
            simpa using hin) hk
          rw [h.1] at this;cases this
        · have:k ∈ Region.ready .any (l.modify j (b_w i)).toArray listed:=ready_addOn.2 ⟨hk,fun e=>absurd e hkj⟩
          rw [h.1] at this;cases this
  | succ fuel ih =>
    intro listed a w hs h
    by_cases hin:listed.getD i false = true
    · exact c_t _ _ _ _ hin h
    · have hiu:listed.getD i true = false:=by
        rw [Array.getD_eq_getD_getElem?] at hin ⊢
        rw [Array.getElem?_eq_getElem (by omega)] at hin ⊢
        simpa using hin
      by_cases hjr:j ∈ Region.ready .any l.toArray listed
      · have hir:=hsub hiu hjr
        have h1:=h.2 i hir
        rw [c_s] at h1
        obtain ⟨v,hy,h2⟩:=quiet_run hq hoi h1
        refine wpAny_first hoi (Region.noSelect_spec hsel) (fun c a w=>hQ c _ v a w) fuel listed a w (fun k ok hk hki hun hno=>?_) (ready_addOn.1 hir).1 hy (c_t _ _ _ _ ?_ h2)
        · refine Region.free_spec hoi hfr k ok hk hki ?_ hno
          have hkl:k < l.length:=by
            rcases Nat.lt_or_ge k l.length with h | h
            · exact h
            · rw [Array.getElem?_eq_none (by simpa using h)] at hk;cases hk
          have hd:(depL l i)[k]? = some false:=by
            unfold depL
            rw [List.getElem?_eq_getElem hi]
            simp only [List.getElem?_toArray,List.getElem?_map,List.getElem?_range hkl,Option.map_some,Option.some.injEq]
            cases hany:l[i].after.any (fun e=>Region.binds .any e && Nat.beq e.on k) with
            | false=>rfl
            | true =>
              obtain ⟨e,he,hb⟩:=Array.any_eq_true'.1 hany
              simp only [Bool.and_eq_true,Nat.beq_eq] at hb
              obtain ⟨_,o',ho',h3⟩:=mem_ready.1 (ready_addOn.1 hir).1
              rw [hoi] at ho'
              obtain rfl:=Option.some.inj ho'
              have h4:=h3 e he hb.1
              rw [hb.2] at h4
              rw [Array.getD_eq_getD_getElem?] at h4 hun
              rw [Array.getElem?_eq_getElem (by omega)] at h4 hun
              rw [Option.getD_some] at h4 hun
              rw [h4] at hun;cases hun
          rw [Array.getD_eq_getD_getElem?,hd];rfl
        · simp [Array.getD_eq_getD_getElem?,hs,hi]
      · refine ⟨fun hr=>h.1 ?_,fun k hk=>?_⟩
        · cases hr':Region.ready .any (l.modify j (b_w i)).toArray listed with
          | nil=>rfl
          | cons k ks =>
            have:=(ready_addOn.1 (show k ∈ Region.ready .any (l.modify j (b_w i)).toArray listed by rw [hr'];simp)).1
            rw [hr] at this;cases this
        · have hkj:k ≠ j:=fun e=>hjr (e ▸ hk)
          have:=h.2 k (ready_addOn.2 ⟨hk,fun e=>absurd e hkj⟩)
          rw [c_s] at this
          exact wpOp_mono (fun a' w' h'=>ih _ a' w' (by simp [hs]) h') this
theorem c_4 (i j:Nat) (hc:edgeB l i j = true) (hQ:PanicOk Q) (h:WAny P (l.modify j (b_w i)) Q a w):WAny P l Q a w:=by
  unfold WAny at h ⊢
  have:=any_addOn hc (fun c d v a w h=>hQ.put c d v a w h) _ _ _ _ (by simp) h
  simpa using this
end
end Go.Proofs.YtlfgpmcohfaabaaGreatDoor
namespace Go.Proofs.YtlfgpmcohfaabaaGreatDoor
open Go.RowKit
def AnH (P:Program) (l:List Oper) (Q:Exit → Act → World → Prop) (m:Nat) (S0:World → Prop) (k:Nat) (D:List Nat) (a:Act) (w:World):Prop:=wpAnyH P .any l.toArray Q S0 k (a_F m D) a w
def d_F (P:Program) (l:List Oper) (Q:Exit → Act → World → Prop) (m:Nat) (S0:World → Prop) (k:Nat) (D:List Nat) (a:Act) (w:World) (i:Nat):Prop:=wpOp P l.toArray Q i (fun a' w'=>S0 w' ∧ AnH P l Q m S0 k (i :: D) a' w') a w
def AnForksH (P:Program) (l:List Oper) (Q:Exit → Act → World → Prop) (m:Nat) (S0:World → Prop) (k:Nat) (D:List Nat) (a:Act) (w:World):List Nat → Prop
  | []=>True
  | i :: is=>d_F P l Q m S0 k D a w i ∧ AnForksH P l Q m S0 k D a w is
theorem AnForksH.get {P:Program} {l:List Oper} {Q:Exit → Act → World → Prop} {m k:Nat} {S0:World → Prop} {D:List Nat} {a:Act} {w:World}:∀ {is:List Nat},AnForksH P l Q m S0 k D a w is → ∀ i ∈ is,d_F P l Q m S0 k D a w i
  | j :: is,h,i,hi=>by
    rcases List.mem_cons.1 hi with rfl | hi
    · exact h.1
    · exact AnForksH.get h.2 i hi
section
variable {P:Program} {w W:World} {K:Nat → Prop}
theorem c_u {T:TypeId} {t:GT} {p:Addr} {x:PT t} {cs:List Value} (ht:tiQ P t false T [] 0 = true) (hs:p.spot = none) (h1:RepCs t W K cs x) (h2:∀ (i:Nat) (v:Value),cs[i]? = some v → w.cell? ⟨p.block,p.off + i,none⟩ = some v) :
    (loadVar T p).run P w = .ok (if t.agg then .agg cs.toArray else cs.headD undef) w:=by
  obtain ⟨b,off,spot⟩:=p
  obtain rfl:spot = .none:=hs
  obtain ⟨i,hi,hsz⟩:=a_G ht
  have hl:=h1.len
  have hload:(loadCells ⟨b,off,.none⟩ i.size).run P w = .ok cs.toArray w:=by
    rw [hsz,← hl]
    exact run_loadCells_list (P:=P) w ⟨b,off,.none⟩ cs (fun j v hv=>by rw [Addr.add_lit];exact h2 j v hv)
  have one:t.agg = false → (∀ d,P.underlying T = some d → (match d with | .struct _ | .array _ _=>true | _=>false) = false) → P.underlying T ≠ .none → t.sz = 1 → (loadVar T ⟨b,off,.none⟩).run P w = .ok (if t.agg then .agg cs.toArray else cs.headD undef) w:=by
    intro hagg hd hne h1z
    rw [h1z] at hl
    match cs,hl with
    | [c],_ =>
      have hc:=h2 0 c rfl
      cases hu:P.underlying T with
      | none=>exact absurd hu hne
      | some d =>
        have:=hd d hu
        rw [if_neg (by simp [hagg])]
        have hc':w.cell? ⟨b,off,.none⟩ = some c:=hc
        cases d <;> simp at this <;> simp [loadVar,isAgg,run_underlying hu,hc']
  cases t with
  | int k=>exact one rfl (fun d hd=>by rw [a_2 ht] at hd;cases hd;rfl) (by rw [a_2 ht];simp) rfl
  | bool=>exact one rfl (fun d hd=>by rw [a_5 ht] at hd;cases hd;rfl) (by rw [a_5 ht];simp) rfl
  | str=>exact one rfl (fun d hd=>by rw [a_V ht] at hd;cases hd;rfl) (by rw [a_V ht];simp) rfl
  | sl e=>obtain ⟨E,hE,_⟩:=b_u ht;exact one rfl (fun d hd=>by rw [hE] at hd;cases hd;rfl) (by rw [hE];simp) rfl
  | raw=>obtain ⟨d0,hE,hd0⟩:=e_c ht;exact one rfl (fun d hd=>by rw [hE] at hd;cases hd;exact hd0) (by rw [hE];simp) rfl
  | pair a b=>simp [tiQ] at ht
  | st f =>
    obtain ⟨fs,hfs,_⟩:=c_e ht
    rw [if_pos rfl]
    simp [loadVar,isAgg,run_underlying hfs,sizeOf,typeInfo,hi,hload]
  | arr m e =>
    obtain ⟨E,hE,_⟩:=b_A ht
    rw [if_pos rfl]
    simp [loadVar,isAgg,run_underlying hE,sizeOf,typeInfo,hi,hload]
end
section
variable {ds:List Deferred} {N:Nat} {a:Act} {l0 l1:List (Nat × Value)} {w:World} {S0:World → Prop} {P:Program} {l:List Oper} {Q:Exit → Act → World → Prop} {o:Oper} {m k i:Nat} {D:List Nat}
namespace R
end R
theorem c_5 (hr:Region.ready .any l.toArray (a_F m D) = []) (h:Q .normal a w):AnH P l Q m S0 k D a w:=wpAnyH_done hr h k
theorem c_J {is:List Nat} (hr:Region.ready .any l.toArray (a_F m D) = is) (hne:is.isEmpty = false) (h:AnForksH P l Q m S0 k D a w is):AnH P l Q m S0 (k + 1) D a w:=by
  unfold AnH
  refine ⟨fun he=>?_,fun i hi=>?_⟩
  · rw [hr] at he;subst he;cases hne
  · rw [hr] at hi
    exact h.get i hi
theorem b_L (ho:l[i]? = some o) (S:StD ds N a l0) (hg:gOk l.toArray l0 o = some true) (h:o.wp P a w (fun a' w'=>S0 w' ∧ AnH P l Q m S0 k (i :: D) a' w') Q):d_F P l Q m S0 k D a w i:=by
  unfold d_F wpOp
  have ho':l.toArray[i]? = some o:=by simpa using ho
  simp only [ho']
  rw [if_pos (gOk.wanted S hg)]
  exact .inl h
theorem b_z (hr:Region.ready .any l.toArray (a_F m D) = [i]) (ho:l[i]? = some o) (S:StD ds N a l0) (hg:gOk l.toArray l0 o = some true) (h:o.wp P a w (fun a' w'=>S0 w' ∧ AnH P l Q m S0 k (i :: D) a' w') Q):AnH P l Q m S0 (k + 1) D a w :=
  c_J hr rfl ⟨b_L ho S hg h,trivial⟩
theorem b_c (tys:List (TypeId × GT)) (ht:tysOk P tys = true) (hs:Region.noSelect l.toArray = true) (hQ:PanicOk Q) (hS:S0 w):∀ (is:List Nat) {D:List Nat} {a:Act} {l0:List (Nat × Value)},StD ds N a l0 → b_j l m D is = true → a_o tys l.toArray N (is.filterMap (l[·]?)) l0 = some l1 → (∀ a',StD ds N a' l1 → AnH P l Q m S0 k (is.reverse ++ D) a' w) → AnH P l Q m S0 (k + is.length) D a w
  | [],D,a,l0,S,_,hp,h=>by
    simp only [List.filterMap_nil,a_o,Option.some.injEq] at hp
    subst hp
    exact h a S
  | i :: is,D,a,l0,S,hc,hp,h=>by
    simp only [b_j,Bool.and_eq_true] at hc
    obtain ⟨⟨hf,hr⟩,hc⟩:=hc
    have hi:i ∈ Region.ready .any l.toArray (a_F m D):=by simpa using hr
    obtain ⟨_,o,ho,_⟩:=mem_ready.1 hi
    have ho':l[i]? = some o:=by simpa using ho
    rw [List.filterMap_cons_some ho'] at hp
    have h':∀ a',StD ds N a' l1 → AnH P l Q m S0 k (is.reverse ++ (i :: D)) a' w:=fun a' S'=>by
      have:=h a' S'
      simpa using this
    have fin:∀ (v:Value) (l2:List (Nat × Value)),Yields P l.toArray o v a → StD ds N (a.put o.dst v) l2 → a_o tys l.toArray N (is.filterMap (l[·]?)) l2 = some l1 → AnH P l Q m S0 (k + (is.length + 1)) D a w:=fun v l2 hy S2 hp2 =>
      wpAnyH_first ho (Region.noSelect_spec hs) (fun c a w=>hQ.put c o.dst v a w) (k + is.length) (a_F m D) a w (Region.free_spec ho hf) hi hy.yieldsIf hS (b_c tys ht hs hQ hS is S2 hc hp2 h')
    unfold a_o at hp
    split at hp
    · rename_i d hg hd
      split at hp
      · rename_i v hv
        split at hp
        · rename_i hN
          exact fin v _ (.inl ⟨gOk.wanted S hg,fun w=>d_y S o tys ht hv⟩) (by rw [hd];exact S.put (by simpa [Nat.blt_eq] using hN) v) hp
        · cases hp
      · cases hp
    · rename_i d hg hd
      split at hp
      · rename_i hN
        exact fin undef _ (.inr ⟨gOk.wanted S hg,rfl⟩) (by rw [hd];exact S.put (by simpa [Nat.blt_eq] using hN) undef) hp
      · cases hp
    · rename_i hg hd
      exact fin undef _ (.inr ⟨gOk.wanted S hg,rfl⟩) (by rw [hd];exact S) hp
    · cases hp
theorem anh_first (hs:Region.noSelect l.toArray = true) (hQ:PanicOk Q) (hS:S0 w) (hc:b_j l m D [i] = true) (ho:l[i]? = some o) (hwl:wlB o.op = true) (S:StD ds N a l0) (hg:gOk l.toArray l0 o = some true)
    (h:o.wp P a w (fun a' w'=>w' = w → AnH P l Q m S0 k (i :: D) a' w') (fun _ _ _=>False)):AnH P l Q m S0 (k + 1) D a w:=by
  simp only [b_j,Bool.and_eq_true] at hc
  obtain ⟨⟨hf,hr⟩,_⟩:=hc
  have hi:i ∈ Region.ready .any l.toArray (a_F m D):=by simpa using hr
  have ho':l.toArray[i]? = some o:=by simpa using ho
  unfold Oper.wp at h
  cases hrun:(execOp a.eval o).run P w with
  | halt x w' =>
    rw [hrun] at h
    cases x <;> simp only [Oper.upon] at h
  | ok n w' =>
    obtain ⟨rfl,⟨v,rfl⟩,hall⟩:=wl_run hwl hrun
    rw [hrun] at h
    simp only [Oper.upon] at h
    exact wpAnyH_first ho' (Region.noSelect_spec hs) (fun c a w=>hQ.put c o.dst v a w) k (a_F m D) a w' (Region.free_spec ho' hf) hi (.inl ⟨gOk.wanted S hg,fun w _=>hall w⟩) hS (h trivial)
end
end Go.Proofs.YtlfgpmcohfaabaaGreatDoor
namespace Go.Proofs.YtlfgpmcohfaabaaGreatDoor
open Go.RowKit Go.ChangeShapes
theorem getD_idx {α:Type} {xs:List α} {i:Int} {y d:α} (h:idx xs i = some y):xs.getD i.toNat d = y:=by
  unfold idx at h
  split at h
  · rw [List.getD_eq_getElem?_getD,h];rfl
  · cases h
section
variable {ds:List Deferred} {N:Nat} {a:Act} {l:List (Nat × Value)} {w w0:World} {P:Program} {ops:Array Oper} {Q:Exit → Act → World → Prop} {rest:List Oper} {o:Oper} {Kont:Act → World → Prop} {d:Nat} {K:Nat → Prop} {L:List (Option Nat)}
end
end Go.Proofs.YtlfgpmcohfaabaaGreatDoor
namespace Go.Proofs.YtlfgpmcohfaabaaGreatDoor
open Go.RowKit Go.ChangeShapes
section
variable {ds:List Deferred} {N:Nat} {a:Act} {l:List (Nat × Value)} {w w0:World} {P:Program} {ops:Array Oper} {Q:Exit → Act → World → Prop} {rest:List Oper} {o:Oper} {Kont:Act → World → Prop} {d:Nat} {K:Nat → Prop} {n:Nat} {L:List (Option Nat)}
end
end Go.Proofs.YtlfgpmcohfaabaaGreatDoor
namespace Go.Proofs.YtlfgpmcohfaabaaGreatDoor
open Go.RowKit Go.ChangeShapes
namespace Ro
section
variable {ds:List Deferred} {N:Nat} {a:Act} {l0 l1:List (Nat × Value)} {w w0:World} {P:Program} {ops:Array Oper} {l:List Oper} {Q:Exit → Act → World → Prop} {o:Oper} {m k i:Nat} {D:List Nat} {K:Act → World → Prop} {rest:List Oper}
end
end Ro
section
variable {a:Act} {w:World} {P:Program} {l:List Oper} {Q:Exit → Act → World → Prop}
end
end Go.Proofs.YtlfgpmcohfaabaaGreatDoor
namespace Go.Proofs.YtlfgpmcohfaabaaGreatDoor
open Go.RowKit
theorem RepV.rawV {w:World} {K:Nat → Prop} {v:Value} (h:v.oneCell' = true):RepV .raw w K v v:=⟨[v],⟨rfl,h⟩,rfl⟩
theorem b_d {P:Program} {c:Code} {Q:Exit → Act → World → Prop} {n:Nat} {a:Act} {w:World} (h:c.wp P (Exit.then (Code.rounds P c Q n) Q) a w):Code.rounds P c Q (n + 1) a w:=h
theorem run_part {P:Program} {w W:World} {K:Nat → Prop} {T:TypeId} {t:GT} {x:PT t} {c c1 c2:List Value} (ht:tiQ P t false T [] 0 = true) (h1:RepCs t W K c x) :
    (part T (c1 ++ (c ++ c2)).toArray c1.length).run P w = .ok (if t.agg then .agg c.toArray else c.headD undef) w:=by
  obtain ⟨i,hi,hsz⟩:=a_G ht
  have hl:=h1.len
  have one:t.agg = false → (∀ d,P.underlying T = some d → (match d with | .struct _ | .array _ _=>true | _=>false) = false) → P.underlying T ≠ .none → t.sz = 1 → (part T (c1 ++ (c ++ c2)).toArray c1.length).run P w = .ok (if t.agg then .agg c.toArray else c.headD undef) w:=by
    intro hagg hd hne h1z
    rw [h1z] at hl
    match c,hl with
    | [u],_ =>
      cases hu:P.underlying T with
      | none=>exact absurd hu hne
      | some d =>
        have:=hd d hu
        rw [if_neg (by simp [hagg])]
        cases d <;> simp at this <;> simp [part,isAgg,run_underlying hu]
  have ext:((c1 ++ (c ++ c2)).toArray.extract c1.length (c1.length + t.sz)) = c.toArray:=by
    rw [← hl]
    simp
  cases t with
  | int k=>exact one rfl (fun d hd=>by rw [a_2 ht] at hd;cases hd;rfl) (by rw [a_2 ht];simp) rfl
  | bool=>exact one rfl (fun d hd=>by rw [a_5 ht] at hd;cases hd;rfl) (by rw [a_5 ht];simp) rfl
  | str=>exact one rfl (fun d hd=>by rw [a_V ht] at hd;cases hd;rfl) (by rw [a_V ht];simp) rfl
  | sl e=>obtain ⟨E,hE,_⟩:=b_u ht;exact one rfl (fun d hd=>by rw [hE] at hd;cases hd;rfl) (by rw [hE];simp) rfl
  | raw=>obtain ⟨d0,hE,hd0⟩:=e_c ht;exact one rfl (fun d hd=>by rw [hE] at hd;cases hd;exact hd0) (by rw [hE];simp) rfl
  | pair a b=>simp [tiQ] at ht
  | st f =>
    obtain ⟨fs,hfs,_⟩:=c_e ht
    rw [if_pos rfl]
    have ext':((c1 ++ (c ++ c2)).toArray.extract c1.length (c1.length + i.size)) = c.toArray:=by rw [hsz];exact ext
    simp only [part,isAgg,Sem.run_bind,run_underlying hfs,Result.andThen_ok,Sem.run_pure,if_pos,sizeOf,typeInfo,run_program,hi,ext']
  | arr m e =>
    obtain ⟨E,hE,_⟩:=b_A ht
    rw [if_pos rfl]
    have ext':((c1 ++ (c ++ c2)).toArray.extract c1.length (c1.length + i.size)) = c.toArray:=by rw [hsz];exact ext
    simp only [part,isAgg,Sem.run_bind,run_underlying hE,Result.andThen_ok,Sem.run_pure,if_pos,sizeOf,typeInfo,run_program,hi,ext']
section
variable {ds:List Deferred} {N:Nat} {a:Act} {l:List (Nat × Value)} {w w0:World} {P:Program} {ops:Array Oper} {Q:Exit → Act → World → Prop} {rest:List Oper} {o:Oper} {Kont:Act → World → Prop} {d:Nat} {K:Nat → Prop} {n:Nat} {L:List (Option Nat)}
theorem b_M (S:StD ds N a l) {T:TypeId} {x i:Operand} {m:Nat} {e:GT} {v:Value} {xs:List (PT e)} {k0:IntKind} {j:Int} {y:PT e} (ho:o.op = .index T x i) (ht:tiQ P (.arr m e) false T [] 0 = true) (hd:o.dst = some d) (hN:Nat.blt d N = true) (hx:ev l x = some v) (R:RepV (.arr m e) w K v xs)
    (hi:ev l i = some (.int k0 j)) (hj:idx xs j = some y) (k:∀ a' u,RepV e w K u y → StD ds N a' ((d,u) :: l) → Kont a' w):o.wp P a w Kont Q:=by
  obtain ⟨E,hE,hte⟩:=b_A ht
  obtain ⟨ie,hie,hse⟩:=a_G hte
  obtain ⟨cs,hr,rfl⟩:=R
  obtain ⟨h0,hg,hlt⟩:=a_T hj
  have hjl:j.toNat < xs.length:=by omega
  have hm:j.toNat < m:=by have:=hr.1;omega
  obtain ⟨c1,c,c2,rfl,hl1,hrep,_⟩:=Ln.arr (n:=m) hm y w K cs xs hr
  have hy:RepCs e w K c y:=by
    have hrep':RepCs e w K c (xs.getD j.toNat y):=hrep
    have e0:xs.getD j.toNat y = y:=by simp [List.getD,hg]
    rwa [e0] at hrep'
  have hp:=run_part (P:=P) (w:=w) (c1:=c1) (c2:=c2) hte hy
  refine a_w S (v:=if e.agg then .agg c.toArray else c.headD undef) hd hN ?_ fun a'=>k a' _ ⟨c,hy,rfl⟩
  rw [if_pos (show (GT.arr m e).agg = true from rfl)] at hx
  have hlen:(0 ≤ j ∧ j < (m:Int)):=by omega
  rw [hl1,← List.append_assoc] at hp
  simp only [execOp,ho,S.eval hx,S.eval hi,Instr.index,asIntOf,Sem.run_bind,Sem.run_pure,Result.andThen_ok,run_underlying hE,if_pos hlen,sizeOf,typeInfo,run_program,hie,hse,hp]
end
end Go.Proofs.YtlfgpmcohfaabaaGreatDoor
namespace Go.Proofs.YtlfgpmcohfaabaaGreatDoor
open Go.RowKit
structure SbX (w0:World) (X:List (Option Nat)) (w:World):Prop where
  size:w0.heap.size ≤ w.heap.size
  block:∀ k,k < w0.heap.size → some k ∉ X → w.heap[k]? = w0.heap[k]?
theorem SbX.refl (w:World) (X:List (Option Nat)):SbX w X w:=⟨Nat.le_refl _,fun _ _ _=>rfl⟩
theorem SbX.step {w0 w w':World} {X:List (Option Nat)} (h:SbX w0 X w) (hb:Below w.heap.size w w'):SbX w0 X w' :=
  ⟨Nat.le_trans h.size hb.size,fun k hk hx=>(hb.block k (Nat.lt_of_lt_of_le hk h.size)).trans (h.block k hk hx)⟩
theorem SbX.apd {w0 w w':World} {X:List (Option Nat)} {v v':Value} (h:SbX w0 X w) (A:Apd w w' v v') (hg:∀ c,v.ownBlock = some c → w0.heap.size ≤ c ∨ some c ∈ X):SbX w0 X w' :=
  ⟨Nat.le_trans h.size A.grown.size,fun k hk hx=>(A.grown.block k (Nat.lt_of_lt_of_le hk h.size) fun e=>by
    rcases hg k e.symm with q | q
    · omega
    · exact hx q).trans (h.block k hk hx)⟩
theorem SbX.wrote {w0 w w':World} {X:List (Option Nat)} {b:Nat} (h:SbX w0 X w) (hw:Wrote b w w') (hg:w0.heap.size ≤ b ∨ some b ∈ X):SbX w0 X w' :=
  ⟨Nat.le_trans h.size (Nat.le_of_eq hw.size.symm),fun k hk hx=>(hw.block k fun e=>by
    rcases hg with q | q
    · omega
    · exact hx (e ▸ q)).trans (h.block k hk hx)⟩
theorem Apd.geX {n:Nat} {w w':World} {X:List (Option Nat)} {v v':Value} (A:Apd w w' v v') (hg:∀ c,v.ownBlock = some c → n ≤ c ∨ some c ∈ X) (hn:n ≤ w.heap.size):∀ c,v'.ownBlock = some c → n ≤ c ∨ some c ∈ X:=fun c hc=>by
  rcases A.at_ with e | e
  · exact hg c (e ▸ hc)
  · rw [e] at hc;obtain rfl:=Option.some.inj hc;exact .inl hn
theorem notX {x y:Option Nat} {X:List (Option Nat)} (h:x ≠ y) (t:x ∉ X):x ∉ y :: X:=fun hm=>by
  rcases List.mem_cons.1 hm with e | e
  · exact h e
  · exact t e
theorem SbX.cell {w w':World} {X:List (Option Nat)} (h:SbX w X w') {p:Addr} (hp:p.block < w.heap.size) (hx:some p.block ∉ X):w'.cell? p = w.cell? p :=
  World.cell?_of_block (h.block p.block hp hx)
section
variable {ds:List Deferred} {N:Nat} {a:Act} {l0 l1:List (Nat × Value)} {w:World} {S0:World → Prop} {P:Program} {l:List Oper} {Q:Exit → Act → World → Prop} {o:Oper} {m k i:Nat} {D:List Nat}
theorem b_9 {id:Nat} (m:Nat) (X:List (Option Nat)) (hm:P.follows .mixedOrders = true) (hl:l.length = m) (hQ:PanicOk Q) (h:∀ w',Below w.heap.size w w' → PanicOk Q → AnH P l Q m (SbX w' X) m [] a w'):(Code.region id l.toArray true).wp P Q a w:=by
  subst hl
  refine wp_region_any hm (wpAny_of_held (S:=SbX { w with drawn:=w.drawn + 1 } X) _ _ _ _ ?_)
  have:=h { w with drawn:=w.drawn + 1 } ⟨rfl,rfl,rfl,Nat.le_refl _,fun _ _=>rfl⟩ hQ
  simpa [AnH,a_F] using this
namespace R
end R
theorem anx_load {X:List (Option Nat)} {t:GT} {T:TypeId} {ad:Operand} {d:Nat} {p:Addr} {x:PT t} {K:Nat → Prop} (hs:Region.noSelect l.toArray = true) (hQ:PanicOk Q) (hc:b_j l m D [i] = true) (ho:l[i]? = some o) (S:StD ds N a l0) (hg:gOk l.toArray l0 o = some true)
    (hop:o.op = .load T ad) (ht:tiQ P t false T [] 0 = true) (hd:o.dst = some d) (hN:Nat.blt d N = true) (ha:ev l0 ad = some (.pointer (some p))) (hA:RepAt t w K p x) (hb:p.block < w.heap.size) (hx:some p.block ∉ X)
    (kk:∀ a' v,RepV t w K v x → StD ds N a' ((d,v) :: l0) → AnH P l Q m (SbX w X) k (i :: D) a' w):AnH P l Q m (SbX w X) (k + 1) D a w:=by
  simp only [b_j,Bool.and_eq_true] at hc
  obtain ⟨⟨hf,hr⟩,_⟩:=hc
  have hi:i ∈ Region.ready .any l.toArray (a_F m D):=by simpa using hr
  have ho':l.toArray[i]? = some o:=by simpa using ho
  obtain ⟨h0,cs,hR,hcell⟩:=hA
  have hv:∀ w',SbX w X w' → (execOp a.eval o).run P w' = .ok (.value (if t.agg then .agg cs.toArray else cs.headD undef)) w':=fun w' hw'=>by
    have:=c_u (P:=P) (w:=w') ht h0 hR fun j u hj=>by
      rw [← hcell j u hj]
      exact hw'.cell (show (⟨p.block,p.off + j,.none⟩:Addr).block < w.heap.size from hb) hx
    simp [execOp,hop,S.eval ha,Instr.loadAt,Instr.sureAddr,this]
  have:=kk (a.put o.dst (if t.agg then .agg cs.toArray else cs.headD undef)) _ ⟨cs,hR,rfl⟩ (by rw [hd];exact S.put (by simpa [Nat.blt_eq] using hN) _)
  exact wpAnyH_first ho' (Region.noSelect_spec hs) (fun c a w=>hQ.put c o.dst _ a w) k (a_F m D) a w (Region.free_spec ho' hf) hi (.inl ⟨gOk.wanted S hg,hv⟩) (SbX.refl w X) this
end
section
variable {w0 w:World} {K:Nat → Prop} {n b:Nat} {L:List (Option Nat)} {e:GT} {E:TypeId}
end
section
variable {ds:List Deferred} {N:Nat} {a:Act} {l:List (Nat × Value)} {w w0:World} {P:Program} {ops:Array Oper} {Q:Exit → Act → World → Prop} {rest:List Oper} {o:Oper} {Kont:Act → World → Prop} {d:Nat} {K:Nat → Prop} {n:Nat} {L:List (Option Nat)}
end
end Go.Proofs.YtlfgpmcohfaabaaGreatDoor
namespace Go.Proofs.YtlfgpmcohfaabaaGreatDoor
open Go.RowKit
section
variable {ds:List Deferred} {N:Nat} {a:Act} {l0:List (Nat × Value)} {w:World} {P:Program} {l:List Oper} {Q:Exit → Act → World → Prop} {o:Oper} {m k i:Nat} {D:List Nat} {S0:World → Prop}
theorem anh_val {d:Nat} {v:Value} (hs:Region.noSelect l.toArray = true) (hQ:PanicOk Q) (hS:S0 w) (hc:b_j l m D [i] = true) (ho:l[i]? = some o) (S:StD ds N a l0) (hg:gOk l.toArray l0 o = some true)
    (hd:o.dst = some d) (hN:Nat.blt d N = true) (hall:∀ w',(execOp a.eval o).run P w' = .ok (.value v) w') (kk:∀ a',StD ds N a' ((d,v) :: l0) → AnH P l Q m S0 k (i :: D) a' w):AnH P l Q m S0 (k + 1) D a w:=by
  simp only [b_j,Bool.and_eq_true] at hc
  obtain ⟨⟨hf,hr⟩,_⟩:=hc
  have hi:i ∈ Region.ready .any l.toArray (a_F m D):=by simpa using hr
  have ho':l.toArray[i]? = some o:=by simpa using ho
  have:=kk (a.put o.dst v) (by rw [hd];exact S.put (by simpa [Nat.blt_eq] using hN) _)
  exact wpAnyH_first ho' (Region.noSelect_spec hs) (fun c a w=>hQ.put c o.dst _ a w) k (a_F m D) a w (Region.free_spec ho' hf) hi (.inl ⟨gOk.wanted S hg,fun w _=>hall w⟩) hS this
theorem anh_arith {d:Nat} (hs:Region.noSelect l.toArray = true) (hQ:PanicOk Q) (hS:S0 w) (hc:b_j l m D [i] = true) (ho:l[i]? = some o) (S:StD ds N a l0) (hg:gOk l.toArray l0 o = some true)
    {op:BinOp} {T T':TypeId} {x y:Operand} (k0:IntKind) (z:Int) {p n r:Int} (hop:o.op = .binOp op T x y T') (hz0:(op,z) = (.add,p + n) ∨ (op,z) = (.sub,p - n) ∨ (op,z) = (.mul,p * n))
    (hd:o.dst = some d) (hN:Nat.blt d N = true) (hx:ev l0 x = some (.int k0 p)) (hy:ev l0 y = some (.int k0 n)) (hz:ckI k0 z = some r) (kk:∀ a',StD ds N a' ((d,.int k0 r) :: l0) → AnH P l Q m S0 k (i :: D) a' w):AnH P l Q m S0 (k + 1) D a w:=by
  refine anh_val hs hQ hS hc ho S hg hd hN (fun w'=>?_) kk
  obtain ⟨h1,_,h2⟩:=a_h hz
  subst h1
  rcases hz0 with h | h | h <;> (obtain ⟨rfl,rfl⟩:=Prod.mk.inj h;simp [execOp,hop,S.eval hx,S.eval hy,a_N,binOp,Op.intArith,h2])
end
end Go.Proofs.YtlfgpmcohfaabaaGreatDoor
namespace Go.Proofs.YtlfgpmcohfaabaaGreatDoor
open Go.RowKit
class TyOk (P:Program) (tys:outParam (List (TypeId × GT))):Prop where
  ok:tysOk P tys = true
section
variable {r:Option Nat} {ds:List Deferred} {N:Nat} {a:Act} {l:List (Nat × Value)} {w:World} {P:Program} {ops:Array Oper} {Q:Exit → Act → World → Prop} {K:Act → World → Prop} {tys:List (TypeId × GT)} {l0:List Oper}
theorem dl1 [T:TyOk P tys] (S:StD ds N a l) (m:Nat) (p1:Nat × Value) (k:∀ a',StD ds N a' (p1 :: l) → wpList P ops Q (l0.drop m) a' w) (h:a_o tys ops N (l0.take m) l = some (p1 :: l):=by kernel_rfl):wpList P ops Q l0 a w:=b_a S tys T.ok m h k
theorem dl2 [T:TyOk P tys] (S:StD ds N a l) (m:Nat) (p1 p2:Nat × Value) (k:∀ a',StD ds N a' (p1 :: p2 :: l) → wpList P ops Q (l0.drop m) a' w) (h:a_o tys ops N (l0.take m) l = some (p1 :: p2 :: l):=by kernel_rfl):wpList P ops Q l0 a w:=b_a S tys T.ok m h k
theorem dl3 [T:TyOk P tys] (S:StD ds N a l) (m:Nat) (p1 p2 p3:Nat × Value) (k:∀ a',StD ds N a' (p1 :: p2 :: p3 :: l) → wpList P ops Q (l0.drop m) a' w) (h:a_o tys ops N (l0.take m) l = some (p1 :: p2 :: p3 :: l):=by kernel_rfl):wpList P ops Q l0 a w:=b_a S tys T.ok m h k
theorem dl4 [T:TyOk P tys] (S:StD ds N a l) (m:Nat) (p1 p2 p3 p4:Nat × Value) (k:∀ a',StD ds N a' (p1 :: p2 :: p3 :: p4 :: l) → wpList P ops Q (l0.drop m) a' w) (h:a_o tys ops N (l0.take m) l = some (p1 :: p2 :: p3 :: p4 :: l):=by kernel_rfl):wpList P ops Q l0 a w:=b_a S tys T.ok m h k
theorem dl5 [T:TyOk P tys] (S:StD ds N a l) (m:Nat) (p1 p2 p3 p4 p5:Nat × Value) (k:∀ a',StD ds N a' (p1 :: p2 :: p3 :: p4 :: p5 :: l) → wpList P ops Q (l0.drop m) a' w) (h:a_o tys ops N (l0.take m) l = some (p1 :: p2 :: p3 :: p4 :: p5 :: l):=by kernel_rfl):wpList P ops Q l0 a w:=b_a S tys T.ok m h k
theorem dl6 [T:TyOk P tys] (S:StD ds N a l) (m:Nat) (p1 p2 p3 p4 p5 p6:Nat × Value) (k:∀ a',StD ds N a' (p1 :: p2 :: p3 :: p4 :: p5 :: p6 :: l) → wpList P ops Q (l0.drop m) a' w) (h:a_o tys ops N (l0.take m) l = some (p1 :: p2 :: p3 :: p4 :: p5 :: p6 :: l):=by kernel_rfl):wpList P ops Q l0 a w:=b_a S tys T.ok m h k
theorem dl7 [T:TyOk P tys] (S:StD ds N a l) (m:Nat) (p1 p2 p3 p4 p5 p6 p7:Nat × Value) (k:∀ a',StD ds N a' (p1 :: p2 :: p3 :: p4 :: p5 :: p6 :: p7 :: l) → wpList P ops Q (l0.drop m) a' w) (h:a_o tys ops N (l0.take m) l = some (p1 :: p2 :: p3 :: p4 :: p5 :: p6 :: p7 :: l):=by kernel_rfl):wpList P ops Q l0 a w:=b_a S tys T.ok m h k
theorem dl8 [T:TyOk P tys] (S:StD ds N a l) (m:Nat) (p1 p2 p3 p4 p5 p6 p7 p8:Nat × Value) (k:∀ a',StD ds N a' (p1 :: p2 :: p3 :: p4 :: p5 :: p6 :: p7 :: p8 :: l) → wpList P ops Q (l0.drop m) a' w) (h:a_o tys ops N (l0.take m) l = some (p1 :: p2 :: p3 :: p4 :: p5 :: p6 :: p7 :: p8 :: l):=by kernel_rfl):wpList P ops Q l0 a w:=b_a S tys T.ok m h k
theorem R.dl1 [T:TyOk P tys] (S:StD ds N a l) (m:Nat) (p1:Nat × Value) (k:∀ a',StD ds N a' (p1 :: l) → LI r P ops Q (l0.drop m) a' w) (h:a_o tys ops N (l0.take m) l = some (p1 :: l):=by kernel_rfl):LI r P ops Q l0 a w:=R.b_a S tys T.ok m h k
theorem R.dl2 [T:TyOk P tys] (S:StD ds N a l) (m:Nat) (p1 p2:Nat × Value) (k:∀ a',StD ds N a' (p1 :: p2 :: l) → LI r P ops Q (l0.drop m) a' w) (h:a_o tys ops N (l0.take m) l = some (p1 :: p2 :: l):=by kernel_rfl):LI r P ops Q l0 a w:=R.b_a S tys T.ok m h k
theorem R.dl3 [T:TyOk P tys] (S:StD ds N a l) (m:Nat) (p1 p2 p3:Nat × Value) (k:∀ a',StD ds N a' (p1 :: p2 :: p3 :: l) → LI r P ops Q (l0.drop m) a' w) (h:a_o tys ops N (l0.take m) l = some (p1 :: p2 :: p3 :: l):=by kernel_rfl):LI r P ops Q l0 a w:=R.b_a S tys T.ok m h k
theorem R.dl7 [T:TyOk P tys] (S:StD ds N a l) (m:Nat) (p1 p2 p3 p4 p5 p6 p7:Nat × Value) (k:∀ a',StD ds N a' (p1 :: p2 :: p3 :: p4 :: p5 :: p6 :: p7 :: l) → LI r P ops Q (l0.drop m) a' w) (h:a_o tys ops N (l0.take m) l = some (p1 :: p2 :: p3 :: p4 :: p5 :: p6 :: p7 :: l):=by kernel_rfl):LI r P ops Q l0 a w:=R.b_a S tys T.ok m h k
theorem wcs {c:Operand} {x y:Code} (t:Bool) (S:StD ds N a l) (he:ev l c = some (.bool t)) (h1:t = true → Code.wp P x Q a w) (h2:t = false → Code.wp P y Q a w):Code.wp P (Code.cond c x y) Q a w:=wp_cond_split (S.eval he) h1 h2
theorem wgo {o:Oper} {rest:List Oper} (S:StD ds N a l) (h:o.wp P a w (wpList P ops Q rest) Q) (hg:gOk ops l o = some true:=by rfl):wpList P ops Q (o :: rest) a w:=w_go S hg h
theorem R.wgo {o:Oper} {rest:List Oper} (S:StD ds N a l) (h:o.wp P a w (LI r P ops Q rest) Q) (hg:gOk ops l o = some true:=by rfl) (hd:b_C o = true:=by rfl):LI r P ops Q (o :: rest) a w:=R.w_go S hg h hd
theorem dzp {α:Type} {c:Prop} [Decidable c] {x:Option α} {q:α} {G:Prop} (h:(if c then none else x) = some q) (hc:c):G:=by rw [if_pos hc] at h;cases h
theorem dzn {α:Type} {b:Bool} {x:Option α} {q:α} {G:Prop} (h:(if b then x else none) = some q) (hc:b = false):G:=by rw [hc] at h;cases h
end
end Go.Proofs.YtlfgpmcohfaabaaGreatDoor
namespace Go.Proofs.YtlfgpmcohfaabaaGreatDoor
open Go.RowKit
section
variable {ds:List Deferred} {N:Nat} {a:Act} {l:List (Nat × Value)} {w w0:World} {P:Program} {ops:Array Oper} {Q:Exit → Act → World → Prop} {rest:List Oper} {o:Oper} {Kont:Act → World → Prop} {d:Nat}
end
end Go.Proofs.YtlfgpmcohfaabaaGreatDoor
namespace Go.Proofs.YtlfgpmcohfaabaaGreatDoor
open Go.RowKit
section
variable {ds:List Deferred} {N:Nat} {a:Act} {l:List (Nat × Value)} {w w0:World} {P:Program} {ops:Array Oper} {Q:Exit → Act → World → Prop} {rest:List Oper} {o:Oper} {Kont:Act → World → Prop} {d:Nat} {K:Nat → Prop} {n:Nat} {L:List (Option Nat)}
theorem u8s_rep {w:World} {K:Nat → Prop} {m:List Int} (hB:Byt m):RepCs (.arr m.length (.int .u8)) w K (u8s m) m:=by
  have hfl:∀ q:List Int,u8s q = (q.map fun x=>[Value.int .u8 x]).flatten:=by
    intro q
    induction q with
    | nil=>rfl
    | cons y q ih=>simp only [List.map_cons,List.flatten_cons,← ih];rfl
  refine ⟨rfl,m.map fun x=>[.int .u8 x],hfl m,by simp,fun j c y hc hy=>?_⟩
  simp only [List.getElem?_map,hy,Option.map_some,Option.some.injEq] at hc
  have:=hB y (List.mem_of_getElem? hy)
  exact ⟨hc.symm,by simpa [InR,IntKind.min,IntKind.max,IntKind.signed,IntKind.bits] using this⟩
theorem u8s_data {m:List Int} (hB:Byt m):((strOfNums m).data.map fun b=>Value.int .u8 b.toNat) = (u8s m).toArray:=by
  simp only [strOfNums,List.map_toArray,u8s,List.map_map]
  congr 1
  refine List.map_congr_left fun x hx=>?_
  have:=hB x hx
  simp
  omega
end
end Go.Proofs.YtlfgpmcohfaabaaGreatDoor
namespace Go.Proofs.YtlfgpmcohfaabaaGreatDoor
open Go.RowKit
section
variable {w0 w w':World} {L:List (Option Nat)} {K:Nat → Prop} {n b i:Nat} {v:Value} {e:GT} {E:TypeId} {xs:List (PT e)} {c:Option Nat}
end
section
variable {ds:List Deferred} {N:Nat} {a:Act} {l:List (Nat × Value)} {w w0:World} {P:Program} {ops:Array Oper} {Q:Exit → Act → World → Prop} {rest:List Oper} {o:Oper} {Kont:Act → World → Prop} {d:Nat} {K:Nat → Prop} {n:Nat} {L:List (Option Nat)}
end
end Go.Proofs.YtlfgpmcohfaabaaGreatDoor
namespace Go.Proofs.YtlfgpmcohfaabaaGreatDoor
open Go.RowKit
structure ApO (w w':World) (o o':Option Nat):Prop where
  grown:w.grownBy w' o
  at_:∀ k,o' = some k → o = some k ∨ w.heap.size ≤ k
  lt:∀ k,o' = some k → k < w'.heap.size
section
variable {w0 w w' A:World} {L LO P Q:List (Option Nat)} {K:Nat → Prop} {n b i m:Nat} {t:GT} {v v':Value} {o o':Option Nat}
variable {e:GT} {E:TypeId} {xs:List (PT e)}
end
section
variable {ds:List Deferred} {N:Nat} {a:Act} {l:List (Nat × Value)} {w w0:World} {P:Program} {ops:Array Oper} {Q:Exit → Act → World → Prop} {rest:List Oper} {o:Oper} {Kont:Act → World → Prop} {d:Nat} {K:Nat → Prop} {n:Nat} {L:List (Option Nat)}
end
end Go.Proofs.YtlfgpmcohfaabaaGreatDoor
namespace Go.Proofs.YtlfgpmcohfaabaaGreatDoor
open Go.RowKit
section
variable {w0 w w' A:World} {L LO P Q:List (Option Nat)} {K K':Nat → Prop} {n b i m:Nat} {v v':Value} {o o':Option Nat} {e:GT} {E:TypeId} {xs:List (PT e)}
end
section
variable {ds:List Deferred} {N:Nat} {a:Act} {l:List (Nat × Value)} {w w0:World} {P:Program} {ops:Array Oper} {Q:Exit → Act → World → Prop} {rest:List Oper} {o:Oper} {Kont:Act → World → Prop} {d:Nat} {K:Nat → Prop} {n:Nat} {L:List (Option Nat)}
end
end Go.Proofs.YtlfgpmcohfaabaaGreatDoor
namespace Go.Proofs.YtlfgpmcohfaabaaGreatDoor
open Go.RowKit
section
variable {ds:List Deferred} {N:Nat} {a:Act} {l0 l1:List (Nat × Value)} {w w0 w1:World} {P:Program} {Q:Exit → Act → World → Prop} {l:List Oper} {o:Oper} {m i k:Nat} {D:List Nat}
end
end Go.Proofs.YtlfgpmcohfaabaaGreatDoor
namespace Go.Proofs.YtlfgpmcohfaabaaGreatDoor
open Go.RowKit
def flatA:GT → Bool
  | .bool=>true
  | .int _=>true
  | .arr _ e=>flatA e
  | _=>false
theorem RepCs.flatA {w w':World} {K K':Nat → Prop}:∀ {t:GT} (_:flatA t = true) {cs:List Value} {x:PT t},RepCs t w K cs x → RepCs t w' K' cs x
  | .bool,_,_,_,h=>h
  | .int _,_,_,_,h=>h
  | .arr _ e,hf,_,_,⟨h1,css,h2,h3,h4⟩=>⟨h1,css,h2,h3,fun j c y hc hy=>RepCs.flatA (t:=e) (by simpa [Go.Proofs.YtlfgpmcohfaabaaGreatDoor.flatA] using hf) (h4 j c y hc hy)⟩
  | .sl _,hf,_,_,_=>by cases hf
  | .st _,hf,_,_,_=>by cases hf
  | .str,hf,_,_,_=>by cases hf
  | .raw,hf,_,_,_=>by cases hf
  | .pair _ _,hf,_,_,_=>by cases hf
def Nes (Ls:List (Option Nat)) (o:Option Nat):Prop:=∀ b,some b ∈ Ls → some b ≠ o
theorem Wd.nes {w0 w:World} {L Ls:List (Option Nat)} {o:Option Nat} (W:Wd w0 w L) (ps:List Nat) (q:Nat) (hp:ps.map (fun p=>L[p]?) = Ls.map some) (hq:L[q]? = some o) (hn:(ps.all fun p=>!Nat.beq p q) = true):Nes Ls o:=fun b hb e=>by
  have hm:some (some b) ∈ ps.map (fun p=>L[p]?):=by rw [hp];exact List.mem_map.2 ⟨_,hb,rfl⟩
  obtain ⟨p,hpm,hpe⟩:=List.mem_map.1 hm
  have hne:p ≠ q:=fun e=>by
    have:=List.all_eq_true.1 hn p hpm
    simp [e] at this
  rcases W.neq hne hpe hq with e2 | e2
  · cases e2
  · exact e2 e
structure ClE (kd:IntKind) (t:GT) (T:TypeId) (Ls:List (Option Nat)) (w:World) (c:List (Int × PT t)) (mb:Nat) (es:Array MapEntry) (n:Nat):Prop where
  at_:Ls[0]? = some (some mb)
  map:w.heap[mb]? = some (.map es n)
  all:∀ b,some b ∈ Ls → b < w.heap.size
  len:es.toList.length = c.length
  le:c.length < Ls.length
  born:(es.toList.map (·.born)).Nodup
  lt:∀ e ∈ es.toList,e.born < n
  nd:(c.map (·.1)).Nodup
  free:∀ j,c.length < j → j < Ls.length → Ls[j]? = some none
  ent:∀ j k x,c[j]? = some (k,x) → InR kd k ∧ ∃ e b,es.toList[j]? = some e ∧ e.key = .int kd k ∧ e.val = .pointer (some ⟨b,0,.none⟩) ∧ Ls[j + 1]? = some (some b) ∧ ∃ cs:List Value,w.heap[b]? = some (.cells cs.toArray T (0,0)) ∧ RepCs t w NoK cs x
def Cl (kd:IntKind) (t:GT) (T:TypeId) (Ls:List (Option Nat)) (w:World) (c:List (Int × PT t)):Prop:=flatA t = true ∧ ∃ mb es n,ClE kd t T Ls w c mb es n
structure CiE (kd:IntKind) (t:GT) (T:TypeId) (Ls:List (Option Nat)) (i:Nat) (w:World) (c lf:List (Int × PT t)) (cur:Option (Int × Nat)) (mb:Nat) (es:Array MapEntry) (n:Nat) (Se:Array Nat):Prop where
  cl:ClE kd t T Ls w c mb es n
  it:w.heap[i]? = some (.mapIter (some mb) n Se n)
  ll:(leftOf es Se).toList.length = lf.length
  le:∀ (q:Nat) (e:MapEntry) (kx:Int × PT t),(leftOf es Se).toList[q]? = some e → lf[q]? = some kx → ∃ j:Nat,es.toList[j]? = some e ∧ c[j]? = some kx
  cur:∀ k b,cur = some (k,b) → ∃ (S0:Array Nat) (e:MapEntry),Se = S0.push e.born ∧ e ∈ es.toList ∧ e.key = .int kd k ∧ e.val = .pointer (some ⟨b,0,.none⟩)
def Ci (kd:IntKind) (t:GT) (T:TypeId) (Ls:List (Option Nat)) (i:Nat) (w:World) (c lf:List (Int × PT t)) (cur:Option (Int × Nat)):Prop:=flatA t = true ∧ ∃ mb es n Se,CiE kd t T Ls i w c lf cur mb es n Se
section
variable {w0 w w' A B:World} {L L' LO P Q Ls:List (Option Nat)} {K:Nat → Prop} {n b d i m:Nat} {kd:IntKind} {t:GT} {T:TypeId} {c lf:List (Int × PT t)} {cur:Option (Int × Nat)} {v v':Value} {o:Option Nat}
theorem ClE.frame {mb:Nat} {es:Array MapEntry} (hf:flatA t = true) (h:ClE kd t T Ls w c mb es n) (hs:w.heap.size ≤ w'.heap.size) (hk:∀ b,some b ∈ Ls → b < w.heap.size → w'.heap[b]? = w.heap[b]?):ClE kd t T Ls w' c mb es n where
  at_:=h.at_
  map:=(hk mb (List.mem_of_getElem? h.at_) (h.all mb (List.mem_of_getElem? h.at_))).trans h.map
  all b hb:=Nat.lt_of_lt_of_le (h.all b hb) hs
  len:=h.len
  le:=h.le
  born:=h.born
  lt:=h.lt
  nd:=h.nd
  free:=h.free
  ent j k x hj:=by
    obtain ⟨h1,e,b,h2,h3,h4,h5,cs,h6,h7⟩:=h.ent j k x hj
    exact ⟨h1,e,b,h2,h3,h4,h5,cs,(hk b (List.mem_of_getElem? h5) (h.all b (List.mem_of_getElem? h5))).trans h6,RepCs.flatA hf h7⟩
theorem Cl.frame (h:Cl kd t T Ls w c) (hs:w.heap.size ≤ w'.heap.size) (hk:∀ b,some b ∈ Ls → b < w.heap.size → w'.heap[b]? = w.heap[b]?):Cl kd t T Ls w' c :=
  let ⟨hf,mb,es,n,h⟩:=h;⟨hf,mb,es,n,h.frame hf hs hk⟩
theorem Ci.lt (h:Ci kd t T Ls i w c lf cur):i < w.heap.size:=by obtain ⟨hf,mb,es,n,Se,h⟩:=h;exact (Array.getElem?_eq_some_iff.1 h.it).1
theorem Ci.frame (h:Ci kd t T Ls i w c lf cur) (hs:w.heap.size ≤ w'.heap.size) (hk:∀ b,some b ∈ some i :: Ls → b < w.heap.size → w'.heap[b]? = w.heap[b]?):Ci kd t T Ls i w' c lf cur:=by
  have hl:=h.lt
  obtain ⟨hf,mb,es,n,Se,h⟩:=h
  exact ⟨hf,mb,es,n,Se,h.cl.frame hf hs fun b hb=>hk b (List.mem_cons_of_mem _ hb),(hk i (List.mem_cons_self ..) hl).trans h.it,h.ll,h.le,h.cur⟩
theorem Ci.cl (h:Ci kd t T Ls i w c lf cur):Cl kd t T Ls w c:=by obtain ⟨hf,mb,es,n,Se,h⟩:=h;exact ⟨hf,mb,es,n,h.cl⟩
end
section
variable {w0 w w' A B:World} {L L' LO P Q Ls:List (Option Nat)} {K:Nat → Prop} {n b d i m r:Nat} {kd:IntKind} {t:GT} {T:TypeId} {c lf:List (Int × PT t)} {cur:Option (Int × Nat)} {v v':Value} {o:Option Nat}
theorem Cl.step (h:Cl kd t T Ls w c) (hb:Below w.heap.size w w'):Cl kd t T Ls w' c:=h.frame hb.size fun b _ hl=>hb.block b hl
theorem Cl.box (h:Cl kd t T Ls w c) (hb:NewB w w' r):Cl kd t T Ls w' c:=h.step hb.below
theorem Cl.newO (h:Cl kd t T Ls w c) (hN:NewO w w' o):Cl kd t T Ls w' c:=h.step hN.below
theorem Cl.wrote (h:Cl kd t T Ls w c) (hw:Wrote r w w') (hn:Nes Ls (some r)):Cl kd t T Ls w' c:=h.frame (Nat.le_of_eq hw.size.symm) fun b hb _=>hw.block b fun e=>hn b hb (by rw [e])
theorem Cl.apd (h:Cl kd t T Ls w c) (ha:Apd w w' v v') (hn:Nes Ls v.ownBlock):Cl kd t T Ls w' c:=h.frame ha.grown.size fun b hb hl=>ha.grown.block b hl fun e=>hn b hb e
theorem Cl.yfr (LO:List (Option Nat)) (h:Cl kd t T Ls A c) (hy:Yst n A P B Q) (W:Wd w0 A (P ++ LO)) (hs:∀ b,some b ∈ Ls → some b ∈ LO):Cl kd t T Ls B c:=h.frame hy.size fun b hb hl=>hy.keep b hl (hy.apart W (hs b hb))
end
section
variable {w0 w w' A B:World} {L L' LO P Q Ls:List (Option Nat)} {K:Nat → Prop} {n b d i m r:Nat} {kd:IntKind} {t:GT} {T:TypeId} {c lf:List (Int × PT t)} {cur:Option (Int × Nat)} {v v':Value} {o:Option Nat}
theorem Ci.wrote (h:Ci kd t T Ls i w c lf cur) (hw:Wrote r w w') (hn:Nes (some i :: Ls) (some r)):Ci kd t T Ls i w' c lf cur:=h.frame (Nat.le_of_eq hw.size.symm) fun b hb _=>hw.block b fun e=>hn b hb (by rw [e])
end
theorem Cl.look {w:World} {Ls:List (Option Nat)} {K:Nat → Prop} {kd:IntKind} {t:GT} {T:TypeId} {c:List (Int × PT t)} {j b:Nat} {k:Int} {x:PT t} (h:Cl kd t T Ls w c) (hj:c[j]? = some (k,x)) (hb:Ls[j + 1]? = some (some b)):Bx t T w K b x:=by
  obtain ⟨hf,mb,es,n,h⟩:=h
  obtain ⟨_,e,b',_,_,_,h5,cs,h6,h7⟩:=h.ent j k x hj
  rw [hb] at h5
  obtain rfl:=Option.some.inj (Option.some.inj h5)
  exact ⟨cs,h6,RepCs.flatA hf h7⟩
def d_Z {α:Type} (z:Int) (z0:α) (c:List (Int × α)):Option (Nat × α × List (Int × α)) :=
  match c.findIdx? (fun kx=>decide (kx.1 = z)) with
  | some j=>(c[j]?).map fun kx=>(j,kx.2,c)
  | .none=>if c.length < 3 then some (c.length,z0,c ++ [(z,z0)]) else .none
theorem c_K {l:List Int} (h:l.Nodup) {i j:Nat} {z:Int} (hi:l[i]? = some z) (hj:l[j]? = some z):i = j:=by
  obtain ⟨a1,e1⟩:=List.getElem?_eq_some_iff.1 hi
  obtain ⟨a2,e2⟩:=List.getElem?_eq_some_iff.1 hj
  exact (List.getElem_inj h).1 (e1.trans e2.symm)
theorem lookM_hit {α:Type} {z:Int} {z0:α} {c:List (Int × α)} {j:Nat} {x:α} {y:Nat × α × List (Int × α)} (hn:(c.map (·.1)).Nodup) (hj:c[j]? = some (z,x)) (h:d_Z z z0 c = some y):y = (j,x,c):=by
  unfold d_Z at h
  split at h
  · rename_i i hi
    obtain ⟨hl,h1,_⟩:=List.findIdx?_eq_some_iff_getElem.1 hi
    have h1:c[i].1 = z:=by simpa using h1
    have e:i = j:=c_K hn (z:=z) (by simp [List.getElem?_map,List.getElem?_eq_getElem hl,h1]) (by simp [List.getElem?_map,hj])
    subst e
    rw [hj] at h
    exact (Option.some.inj h).symm
  · rename_i hi
    have:=List.findIdx?_eq_none_iff.1 hi (z,x) (List.mem_of_getElem? hj)
    simp at this
theorem f_b {α:Type} {z:Int} {z0:α} {c:List (Int × α)} {y:Nat × α × List (Int × α)} (hz:z ∉ c.map (·.1)) (h:d_Z z z0 c = some y):c.length < 3 ∧ y = (c.length,z0,c ++ [(z,z0)]):=by
  unfold d_Z at h
  split at h
  · rename_i i hi
    obtain ⟨hl,h1,_⟩:=List.findIdx?_eq_some_iff_getElem.1 hi
    have h1:c[i].1 = z:=by simpa using h1
    exact (hz (List.mem_map.2 ⟨c[i],List.getElem_mem hl,h1⟩)).elim
  · by_cases hc:c.length < 3
    · rw [if_pos hc] at h
      exact ⟨hc,(Option.some.inj h).symm⟩
    · rw [if_neg hc] at h;cases h
def sameA {σ:Type} [DecidableEq σ]:List (Option σ) → Option σ
  | []=>.none
  | x :: l=>if ∀ y ∈ l,y = x then x else .none
theorem f_c {σ:Type} [DecidableEq σ] {l:List (Option σ)} {z:σ} (h:sameA l = some z):∀ y ∈ l,y = some z:=by
  cases l with
  | nil=>cases h
  | cons x l =>
    replace h:(if ∀ y ∈ l,y = x then x else .none) = some z:=h
    by_cases hc:∀ y ∈ l,y = x
    · rw [if_pos hc] at h
      intro y hy
      rcases List.mem_cons.1 hy with e | hy
      · rw [e,h]
      · rw [hc y hy,h]
    · rw [if_neg hc] at h;cases h
def c_n {σ α:Type} [DecidableEq σ] (f:α → σ → Option σ):Nat → List α → σ → Option σ
  | 0,_,s=>some s
  | m + 1,xs,s=>sameA ((List.range xs.length).map fun i=>(xs[i]?).bind fun x=>(f x s).bind (c_n f m (xs.eraseIdx i)))
theorem e_m {σ α:Type} [DecidableEq σ] {f:α → σ → Option σ} {xs:List α} {s z:σ} (h:c_n f xs.length xs s = some z) {i:Nat} {x:α} (hx:xs[i]? = some x):∃ s',f x s = some s' ∧ c_n f (xs.eraseIdx i).length (xs.eraseIdx i) s' = some z:=by
  have hl:i < xs.length:=(List.getElem?_eq_some_iff.1 hx).1
  obtain ⟨m,hm⟩:∃ m,xs.length = m + 1:=⟨xs.length - 1,by omega⟩
  have hm2:(xs.eraseIdx i).length = m:=by rw [List.length_eraseIdx_of_lt hl];omega
  rw [hm] at h
  rw [hm2]
  have:=f_c h _ (List.mem_map.2 ⟨i,List.mem_range.2 hl,rfl⟩)
  rw [hx] at this
  exact Option.bind_eq_some_iff.1 this
theorem f_d {σ α:Type} [DecidableEq σ] {f:α → σ → Option σ} {s z:σ} (h:c_n f 0 [] s = some z):s = z:=Option.some.inj h
theorem b_1 (kd:IntKind) (z:Int):∀ (es:List MapEntry) (ks:List Int) (i:Nat),es.map (·.key) = ks.map (Value.int kd) →
    (∃ j e,ks[j]? = some z ∧ es[j]? = some e ∧ Instr.findNow (.int kd) (.int kd z) es i = some (some (i + j,e.val))) ∨ (z ∉ ks ∧ Instr.findNow (.int kd) (.int kd z) es i = some .none)
  | [],[],i,_=>.inr ⟨by simp,rfl⟩
  | [],x :: xs,i,h=>by simp at h
  | e :: es,[],i,h=>by simp at h
  | e :: es,x :: xs,i,h=>by
    simp only [List.map_cons,List.cons.injEq] at h
    obtain ⟨hk,h⟩:=h
    by_cases hz:z = x
    · subst hz
      refine .inl ⟨0,e,rfl,rfl,?_⟩
      simp [Instr.findNow,Instr.sameNow,hk]
    · have hs:Instr.sameNow (.int kd) (.int kd z) e.key = some false:=by rw [hk];simp [Instr.sameNow,hz]
      have hf:Instr.findNow (.int kd) (.int kd z) (e :: es) i = Instr.findNow (.int kd) (.int kd z) es (i + 1):=by
        rw [Instr.findNow,hs]
      rcases b_1 kd z es xs (i + 1) h with ⟨j,e',h1,h2,h3⟩ | ⟨h1,h2⟩
      · exact .inl ⟨j + 1,e',h1,h2,by rw [hf,h3,Nat.add_assoc,Nat.add_comm 1 j]⟩
      · exact .inr ⟨by simp [hz,h1],hf.trans h2⟩
theorem ClE.keys {kd:IntKind} {t:GT} {T:TypeId} {Ls:List (Option Nat)} {w:World} {c:List (Int × PT t)} {mb:Nat} {es:Array MapEntry} {n:Nat} (h:ClE kd t T Ls w c mb es n):es.toList.map (·.key) = (c.map (·.1)).map (Value.int kd):=by
  refine List.ext_getElem? fun j=>?_
  simp only [List.getElem?_map]
  cases hj:c[j]? with
  | none =>
    have:es.toList[j]? = none:=by rw [List.getElem?_eq_none_iff] at hj ⊢;have:=h.len;omega
    rw [this];rfl
  | some kx =>
    obtain ⟨_,e,b,h2,h3,_⟩:=h.ent j kx.1 kx.2 hj
    rw [h2]
    simp [h3]
def LkQ {α:Type} (Ls:List (Option Nat)) (c:List (Int × α)) (z:Int) (r:Option Addr):Prop :=
  (r = none ∧ z ∉ c.map (·.1)) ∨ ∃ j b x,c[j]? = some (z,x) ∧ Ls[j + 1]? = some (some b) ∧ r = some ⟨b,0,.none⟩
section
variable {ds:List Deferred} {N:Nat} {a:Act} {l:List (Nat × Value)} {w w0:World} {P:Program} {ops:Array Oper} {Q:Exit → Act → World → Prop} {rest:List Oper} {o:Oper} {Kont:Act → World → Prop} {d:Nat} {Tm Tk Tv:TypeId} {kd:IntKind} {t:GT} {T:TypeId} {Ls L LO:List (Option Nat)} {K:Nat → Prop} {c lf:List (Int × PT t)} {cur:Option (Int × Nat)} {om o0 o1 o2:Option Nat}
theorem d_G (S:StD ds N a l) (hf:flatA t = true) (ho:o.op = .makeMap Tm .none) (hd:o.dst = some d) (hN:Nat.blt d N = true)
    (k:∀ a' w' om o0 o1 o2,Wd w w' [om,o0,o1,o2] → Cl kd t T [om,o0,o1,o2] w' [] → StD ds N a' ((d,.map om) :: l) → Kont a' w'):o.wp P a w Kont Q:=by
  have hl:(w.alloc (.map #[] 0)).heap[w.heap.size]? = some (.map #[] 0):=heap_alloc_new w _
  refine a_w S (v:=.map (some w.heap.size)) (w':=w.alloc (.map #[] 0)) hd hN ?_ fun a'=>k a' _ (some w.heap.size) .none .none .none ?_ ⟨hf,w.heap.size,#[],0,rfl,hl,?_,rfl,by simp,by simp,by simp,by simp,?_,?_⟩
  · simp [execOp,ho,Instr.makeMap,newObj]
    rfl
  · have h1:=(Wd.start w).box (a_R w (.map #[] 0))
    refine ⟨h1.below,fun b hb=>h1.own b (by simpa using hb),by simp⟩
  · intro b hb
    have e:b = w.heap.size:=by simpa using hb
    subst e
    exact (Array.getElem?_eq_some_iff.1 hl).1
  · intro j h1 h2
    match j with
    | 0=>simp at h1
    | 1=>rfl
    | 2=>rfl
    | 3=>rfl
    | j + 4=>exact absurd h2 (by simp)
  · intro j k x h;simp at h
theorem d_0 (S:StD ds N a l) (h:MapTy P Tm Tk Tv kd) (hz0:(P.info? Tv).bind (·.zero) = some (.pointer .none)) {x ix:Operand} {z:Int} (ho:o.op = .lookup Tm x ix false) (hd:o.dst = some d) (hN:Nat.blt d N = true) (hx:ev l x = some (.map om)) (hi:ev l ix = some (.int kd z))
    (C:Cl kd t T (om :: Ls) w c) (k:∀ a' r,LkQ (om :: Ls) c z r → StD ds N a' ((d,.pointer r) :: l) → Kont a' w):o.wp P a w Kont Q:=by
  obtain ⟨hf,mb,es,n,C⟩:=C
  obtain rfl:om = some mb:=Option.some.inj C.at_
  obtain ⟨iv,hiv,hzv⟩:=Option.bind_eq_some_iff.1 hz0
  have hg:(getObj mb).run P w = .ok (.map es n) w:=by show Sem.run P (.getObj mb .pure) w = _;simp [Sem.run,C.map]
  rcases b_1 kd z es.toList (c.map (·.1)) 0 C.keys with ⟨j,e,h1,h2,h3⟩ | ⟨h1,h2⟩
  · obtain ⟨kx,hkx,hk⟩:=List.getElem?_map .. ▸ h1 |> Option.map_eq_some_iff.1
    obtain ⟨k0,x0⟩:=kx
    obtain rfl:k0 = z:=hk
    obtain ⟨_,e',b,h4,h5,h6,h7,_⟩:=C.ent j k0 x0 hkx
    rw [h2] at h4
    obtain rfl:=Option.some.inj h4
    refine a_w S hd hN ?_ fun a'=>k a' (some ⟨b,0,.none⟩) (.inr ⟨j,b,x0,hkx,h7,rfl⟩)
    simp [execOp,ho,S.eval hx,S.eval hi,Instr.lookup,run_underlying h.mp,hg,b_k _ h.key,Instr.findKey,run_underlying h.key,h3,h6]
  · refine a_w S hd hN ?_ fun a'=>k a' .none (.inl ⟨rfl,h1⟩)
    simp [execOp,ho,S.eval hx,S.eval hi,Instr.lookup,run_underlying h.mp,hg,b_k _ h.key,Instr.findKey,run_underlying h.key,h2,zeroValue,typeInfo,hiv,hzv]
theorem f_e (S:StD ds N a l) {T T':TypeId} {x y:Operand} {r:Option Addr} (ho:o.op = .binOp .eql T x y T') (ht:f_k P T = true) (hd:o.dst = some d) (hN:Nat.blt d N = true)
    (hx:ev l x = some (.pointer r)) (hy:ev l y = some (.pointer .none)) (k:∀ a',StD ds N a' ((d,.bool r.isNone) :: l) → Kont a' w):o.wp P a w Kont Q:=by
  cases r with
  | none=>exact e_9 S ho ht hd hN hx hy k
  | some A=>exact c_r S ho ht hd hN hx hy k
end
section
variable {ds:List Deferred} {N:Nat} {a:Act} {l:List (Nat × Value)} {w w0:World} {P:Program} {ops:Array Oper} {Q:Exit → Act → World → Prop} {rest:List Oper} {o:Oper} {Kont:Act → World → Prop} {d:Nat} {Tm Tk Tv:TypeId} {kd:IntKind} {t:GT} {T:TypeId} {Ls L LO:List (Option Nat)} {K:Nat → Prop} {c lf:List (Int × PT t)} {cur:Option (Int × Nat)} {om o0 o1 o2:Option Nat}
theorem Yst.wrote1 {b:Nat} {w w':World} {Bs:List (Option Nat)} (W:Wd w0 w (Bs ++ LO)) (hw:Wrote b w w') (hb:some b ∈ Bs):Yst w0.heap.size w Bs w' Bs :=
  have W':=W.front
  ⟨hw.os,hw.tape,hw.output,Nat.le_of_eq hw.size.symm,fun k _ hk=>hw.block k fun e=>hk (e ▸ hb),fun _ _ h=>h,fun k hk=>by rw [hw.size];exact W'.own k hk,W'.dis⟩
theorem Yst.sub {n:Nat} {A B:World} {P Q Q':List (Option Nat)} (h:Yst n A P B Q) (ho:∀ b,b < A.heap.size → some b ∈ Q' → some b ∈ P) (hn:∀ b,some b ∈ Q' → n ≤ b ∧ b < B.heap.size) (hd:Q'.Pairwise fun x y=>x = .none ∨ x ≠ y):Yst n A P B Q' :=
  ⟨h.os,h.tape,h.output,h.size,h.keep,ho,hn,hd⟩
theorem c_6 (S:StD ds N a l) (h:MapTy P Tm Tk Tv kd) {x ix y:Operand} {b:Nat} {z:Int} {x0:PT t} (ho:o.op = .mapUpdate Tm x ix y) (hd:o.dst = .none) (hx:ev l x = some (.map om)) (hi:ev l ix = some (.int kd z)) (hy:ev l y = some (.pointer (some ⟨b,0,.none⟩))) (Gz:InR kd z)
    (B:Bx t T w K b x0) (C:Cl kd t T [om,o0,o1,o2] w c) (hz:z ∉ c.map (·.1)) (hlen:c.length < 3) (W:Wd w0 w ([some b,om,o0,o1,o2] ++ LO))
    (k:∀ w' p0 p1 p2,Cl kd t T [om,p0,p1,p2] w' (c ++ [(z,x0)]) → [om,p0,p1,p2][c.length + 1]? = some (some b) → Yst w0.heap.size w [some b,om,o0,o1,o2] w' [om,p0,p1,p2] → Kont a w'):o.wp P a w Kont Q:=by
  obtain ⟨hf,mb,es,n,C⟩:=C
  obtain rfl:om = some mb:=Option.some.inj C.at_
  have hml:=C.all mb (by simp)
  have hg:(getObj mb).run P w = .ok (.map es n) w:=by show Sem.run P (.getObj mb .pure) w = _;simp [Sem.run,C.map]
  have hset:∀ ob:Obj,(setObj mb ob).run P w = .ok () { w with heap:=w.heap.setIfInBounds mb ob }:=fun ob=>by show Sem.run P (.setObj mb ob (.pure ())) w = _;simp [Sem.run,C.map]
  have hfn:Instr.findNow (.int kd) (.int kd z) es.toList 0 = some .none:=by
    rcases b_1 kd z es.toList (c.map (·.1)) 0 C.keys with ⟨j,e,h1,_⟩ | ⟨_,h2⟩
    · exact (hz (List.mem_of_getElem? h1)).elim
    · exact h2
  obtain ⟨csb,hbo,hbr⟩:=B
  have hbl:b < w.heap.size:=(Array.getElem?_eq_some_iff.1 hbo).1
  have hbm:b ≠ mb:=fun e=>by rw [e,C.map] at hbo;cases hbo
  have hr:(execOp a.eval o).run P w = .ok .skip { w with heap:=w.heap.setIfInBounds mb (.map (es.push { key:=.int kd z,val:=.pointer (some ⟨b,0,.none⟩),born:=n }) (n + 1)) }:=by
    simp [execOp,ho,S.eval hx,S.eval hi,S.eval hy,Instr.mapUpdate,run_underlying h.mp,hg,b_k _ h.key,Instr.findKey,run_underlying h.key,hfn,hset]
  have hw:Wrote mb w { w with heap:=w.heap.setIfInBounds mb (.map (es.push { key:=.int kd z,val:=.pointer (some ⟨b,0,.none⟩),born:=n }) (n + 1)) }:=⟨rfl,rfl,rfl,by simp,fun q hq=>by simp [Array.getElem?_setIfInBounds_ne (Ne.symm hq)]⟩
  have hm':({ w with heap:=w.heap.setIfInBounds mb (.map (es.push { key:=.int kd z,val:=.pointer (some ⟨b,0,.none⟩),born:=n }) (n + 1)) }:World).heap[mb]? = some (.map (es.push { key:=.int kd z,val:=.pointer (some ⟨b,0,.none⟩),born:=n }) (n + 1)):=by simp [hml]
  unfold Oper.wp
  rw [hr]
  simp only [Oper.upon,hd]
  generalize ({ w with heap:=w.heap.setIfInBounds mb (.map (es.push { key:=.int kd z,val:=.pointer (some ⟨b,0,.none⟩),born:=n }) (n + 1)) }:World) = w' at hw hm' ⊢
  have Y0:=Yst.wrote1 W hw (by simp)
  have key:∀ Ls':List (Option Nat),Ls'.length = 4 → Ls'[0]? = some (some mb) → Ls'[c.length + 1]? = some (some b) → (∀ j,j ≠ c.length + 1 → Ls'[j]? = [some mb,o0,o1,o2][j]?) → Cl kd t T Ls' w' (c ++ [(z,x0)]):=by
    intro Ls' hl4 h0 hb' hj'
    have mem:∀ q,some q ∈ Ls' → q = b ∨ some q ∈ [some mb,o0,o1,o2]:=fun q hq=>by
      obtain ⟨j,hj⟩:=List.mem_iff_getElem?.1 hq
      by_cases e:j = c.length + 1
      · subst e;rw [hb'] at hj;exact .inl (Option.some.inj (Option.some.inj hj)).symm
      · rw [hj' j e] at hj;exact .inr (List.mem_of_getElem? hj)
    have nb:∀ q,some q ∈ [some mb,o0,o1,o2] → q ≠ b:=fun q hq e=>by
      subst e
      have hp:=(List.pairwise_cons.1 (List.pairwise_append.1 W.dis).1).1 _ hq
      rcases hp with e | e
      · cases e
      · exact e rfl
    refine ⟨hf,mb,es.push { key:=.int kd z,val:=.pointer (some ⟨b,0,.none⟩),born:=n },n + 1,h0,hm',fun q hq=>?_,?_,?_,?_,?_,?_,?_,?_⟩
    · rw [hw.size]
      rcases mem q hq with e | hq
      · rw [e];exact hbl
      · exact C.all q hq
    · simp [C.len]
    · simp [hl4];omega
    · rw [Array.toList_push,List.map_append,List.nodup_append]
      refine ⟨C.born,by simp,fun x hx y hy=>?_⟩
      obtain ⟨e,he,rfl⟩:=List.mem_map.1 hx
      have:=C.lt e he
      simp at hy
      omega
    · intro e he
      rw [Array.toList_push] at he
      rcases List.mem_append.1 he with he | he
      · have:=C.lt e he;omega
      · rw [List.mem_singleton.1 he];simp
    · rw [List.map_append,List.nodup_append]
      refine ⟨C.nd,by simp,fun x hx y hy e=>hz ?_⟩
      simp at hy
      rw [← hy,← e];exact hx
    · intro j h1 h2
      simp only [List.length_append,List.length_singleton] at h1
      rw [hj' j (by omega)]
      exact C.free j (by omega) (by simp;omega)
    · intro j k0 x1 hj
      rcases Nat.lt_or_ge j c.length with hl | hl
      · rw [List.getElem?_append_left hl] at hj
        obtain ⟨h1,e,b',h2,h3,h4,h5,cs,h6,h7⟩:=C.ent j k0 x1 hj
        have hjl:j < es.toList.length:=by rw [C.len];exact hl
        refine ⟨h1,e,b',by rw [Array.toList_push,List.getElem?_append_left hjl];exact h2,h3,h4,by rw [hj' (j + 1) (by omega)];exact h5,cs,?_,RepCs.flatA hf h7⟩
        rw [hw.block b' fun e=>by rw [e,C.map] at h6;cases h6]
        exact h6
      · obtain rfl:j = c.length:=by
          have:=(List.getElem?_eq_some_iff.1 hj).1
          simp at this
          omega
        rw [List.getElem?_append_right (Nat.le_refl _)] at hj
        simp only [Nat.sub_self,List.getElem?_cons_zero,Option.some.injEq,Prod.mk.injEq] at hj
        obtain ⟨rfl,rfl⟩:=hj
        refine ⟨Gz,{ key:=.int kd z,val:=.pointer (some ⟨b,0,.none⟩),born:=n },b,?_,rfl,rfl,hb',csb,(hw.block b hbm).trans hbo,RepCs.flatA hf hbr⟩
        rw [Array.toList_push,List.getElem?_append_right (by rw [C.len];exact Nat.le_refl _),C.len]
        simp
  have W5:=W.front
  have own:=W5.own
  have dis:=W5.dis
  simp only [List.pairwise_cons,List.mem_cons,List.not_mem_nil,or_false,forall_eq_or_imp,forall_eq] at dis
  have hfr:=C.free
  have fin:∀ p0 p1 p2:Option Nat,(∀ q,some q ∈ [some mb,p0,p1,p2] → some q ∈ [some b,some mb,o0,o1,o2]) → ([some mb,p0,p1,p2]:List (Option Nat)).Pairwise (fun x y=>x = .none ∨ x ≠ y) → Yst w0.heap.size w [some b,some mb,o0,o1,o2] w' [some mb,p0,p1,p2]:=fun p0 p1 p2 hs hp =>
    Y0.sub (fun q _ hq=>hs q hq) (fun q hq=>by rw [hw.size];exact own q (hs q hq)) hp
  match hc:c.length,hlen with
  | 0,_ =>
    have e0:o0 = none:=by have:=hfr 1 (by omega) (by simp);simpa using this
    have e1:o1 = none:=by have:=hfr 2 (by omega) (by simp);simpa using this
    have e2:o2 = none:=by have:=hfr 3 (by omega) (by simp);simpa using this
    subst e0;subst e1;subst e2
    rw [hc] at key
    refine k w' (some b) .none .none (key _ rfl rfl rfl fun j hj=>by rcases j with _ | _ | _ | _ | j <;> first | rfl | exact absurd rfl hj) (by rw [hc];rfl) (fin _ _ _ (fun q hq=>by simp at hq ⊢;omega) ?_)
    simp at dis ⊢ <;> omega
  | 1,_ =>
    have e1:o1 = none:=by have:=hfr 2 (by omega) (by simp);simpa using this
    have e2:o2 = none:=by have:=hfr 3 (by omega) (by simp);simpa using this
    subst e1;subst e2
    rw [hc] at key
    refine k w' o0 (some b) .none (key _ rfl rfl rfl fun j hj=>by rcases j with _ | _ | _ | _ | j <;> first | rfl | exact absurd rfl hj) (by rw [hc];rfl) (fin _ _ _ (fun q hq=>by simp at hq ⊢;rcases hq with h | h | h <;> simp [h]) ?_)
    rcases o0 with _ | q <;> simp at dis ⊢ <;> omega
  | 2,_ =>
    have e2:o2 = none:=by have:=hfr 3 (by omega) (by simp);simpa using this
    subst e2
    rw [hc] at key
    refine k w' o0 o1 (some b) (key _ rfl rfl rfl fun j hj=>by rcases j with _ | _ | _ | _ | j <;> first | rfl | exact absurd rfl hj) (by rw [hc];rfl) (fin _ _ _ (fun q hq=>by simp at hq ⊢;rcases hq with h | h | h | h <;> simp [h]) ?_)
    rcases o0 with _ | q <;> rcases o1 with _ | q' <;> simp at dis ⊢ <;> omega
end
section
variable {ds:List Deferred} {N:Nat} {a:Act} {l:List (Nat × Value)} {w w0:World} {P:Program} {ops:Array Oper} {Q:Exit → Act → World → Prop} {rest:List Oper} {o:Oper} {Kont:Act → World → Prop} {d:Nat} {Tm Tk Tv:TypeId} {kd:IntKind} {t:GT} {T:TypeId} {Ls L LO:List (Option Nat)} {K:Nat → Prop} {n:Nat} {c lf:List (Int × PT t)} {cur:Option (Int × Nat)} {om o0 o1 o2:Option Nat}
theorem e_n (S:StD ds N a l) {ad xo:Operand} {v:Value} {p:Addr} {j b:Nat} {z:Int} {x y:PT t} (ho:o.op = .store T ad xo) (hd:o.dst = .none) (ht:tiQ P t false T [] 0 = true)
    (ha:ev l ad = some (.pointer (some p))) (hp:p = ⟨b,0,.none⟩) (hx:ev l xo = some v) (R:RepV t w K v y) (C:Cl kd t T Ls w c) (hj:c[j]? = some (z,x)) (hb:Ls[j + 1]? = some (some b)) (W:Wd w0 w (Ls ++ LO))
    (k:∀ w',Cl kd t T Ls w' (c.set j (z,y)) → Yst w0.heap.size w Ls w' Ls → Kont a w'):o.wp P a w Kont Q:=by
  have hbm:some b ∈ Ls:=List.mem_of_getElem? hb
  have hR:RepV t w (Kx (fun _=>True) 0 Ls) v y:=by
    obtain ⟨cs,h1,h2⟩:=R;exact ⟨cs,RepCs.flatA C.1 h1,h2⟩
  refine a_g S ho hd ht ha hp hx (C.look (K:=Kx (fun _=>True) 0 Ls) hj hb) hbm Ln.whole hR fun w' hw B'=>k w' ?_ (Yst.wrote1 W hw hbm)
  obtain ⟨hf,mb,es,n,C⟩:=C
  obtain ⟨cs',hcs,hrc⟩:=B'
  have W1:=W.front
  have ne:∀ (i q:Nat),i ≠ j + 1 → Ls[i]? = some (some q) → q ≠ b:=fun i q hi hq e=>by
    subst e
    rcases W1.neq hi hq hb with e | e
    · cases e
    · exact e rfl
  obtain ⟨hin,e,b2,h2,h3,h4,h5,_⟩:=C.ent j z x hj
  rw [hb] at h5
  obtain rfl:=Option.some.inj (Option.some.inj h5)
  have hjl:j < c.length:=(List.getElem?_eq_some_iff.1 hj).1
  refine ⟨hf,mb,es,n,C.at_,(hw.block mb (ne 0 mb (by omega) C.at_)).trans C.map,fun q hq=>by rw [hw.size];exact C.all q hq,by simp [C.len],by simpa using C.le,C.born,C.lt,?_,fun i h1 h2=>C.free i (by simpa using h1) h2,?_⟩
  · have:(c.set j (z,y)).map (·.1) = c.map (·.1):=by
      refine List.ext_getElem? fun i=>?_
      simp only [List.getElem?_map,List.getElem?_set]
      by_cases hi:j = i
      · subst hi
        have:c[j] = (z,x):=(List.getElem?_eq_some_iff.1 hj).2
        simp [hjl,this]
      · simp [hi]
    rw [this];exact C.nd
  · intro i k0 x0 hi
    rw [List.getElem?_set] at hi
    by_cases hji:j = i
    · subst hji
      simp only [if_true,hjl,Option.some.injEq,Prod.mk.injEq] at hi
      obtain ⟨rfl,rfl⟩:=hi
      exact ⟨hin,e,b,h2,h3,h4,hb,cs',hcs,RepCs.flatA hf hrc⟩
    · rw [if_neg hji] at hi
      obtain ⟨g1,e',b',g2,g3,g4,g5,cs,g6,g7⟩:=C.ent i k0 x0 hi
      exact ⟨g1,e',b',g2,g3,g4,g5,cs,(hw.block b' (ne (i + 1) b' (by omega) g5)).trans g6,RepCs.flatA hf g7⟩
theorem c_C (e:MapEntry):∀ (l:List MapEntry) (q:Nat),(l.map (·.born)).Nodup → l[q]? = some e → l.filter (fun x=>!(x.born == e.born)) = l.eraseIdx q
  | [],q,_,h=>by simp at h
  | x :: l,0,hn,h=>by
    obtain rfl:x = e:=by simpa using h
    simp only [List.map_cons,List.nodup_cons] at hn
    simp only [List.filter_cons,beq_self_eq_true,Bool.not_true,Bool.false_eq_true,if_false,List.eraseIdx_cons_zero]
    exact List.filter_eq_self.2 fun y hy=>by
      have:y.born ≠ x.born:=fun e=>hn.1 (List.mem_map.2 ⟨y,hy,e⟩)
      simpa using this
  | x :: l,q + 1,hn,h=>by
    simp only [List.map_cons,List.nodup_cons] at hn
    have hq:l[q]? = some e:=by simpa using h
    have hne:x.born ≠ e.born:=fun e2=>hn.1 (List.mem_map.2 ⟨e,List.mem_of_getElem? hq,e2.symm⟩)
    rw [List.filter_cons,if_pos (by simpa using hne),c_C e l q hn.2 hq,List.eraseIdx_cons_succ]
theorem e_o (S:StD ds N a l) (h:MapTy P Tm Tk Tv kd) {x:Operand} (ho:o.op = .range Tm x) (hd:o.dst = some d) (hN:Nat.blt d N = true) (hx:ev l x = some (.map om)) (C:Cl kd t T (om :: Ls) w c)
    (k:∀ a' w' i,NewB w w' i → Ci kd t T (om :: Ls) i w' c c none → StD ds N a' ((d,.pointer (some ⟨i,0,.none⟩)) :: l) → Kont a' w'):o.wp P a w Kont Q:=by
  obtain ⟨hf,mb,es,n,C⟩:=C
  obtain rfl:om = some mb:=Option.some.inj C.at_
  have hN':=a_R w (.mapIter (some mb) n #[] n)
  refine a_w S (v:=.pointer (some ⟨w.heap.size,0,.none⟩)) (w':=w.alloc (.mapIter (some mb) n #[] n)) hd hN ?_ fun a'=>k a' _ w.heap.size hN' ⟨hf,mb,es,n,#[],C.frame hf hN'.below.size fun b _ hl=>hN'.below.block b hl,heap_alloc_new w _,?_,?_,fun _ _ h=>by cases h⟩
  · have:=run_range_map w Tm Tk Tv mb es n h.mp C.map
    simp [execOp,ho,S.eval hx,this]
  · have:leftOf es #[] = es:=Array.filter_eq_self.2 fun e _=>by simp
    rw [this];exact C.len
  · intro q e kx h1 h2
    have:leftOf es #[] = es:=Array.filter_eq_self.2 fun e _=>by simp
    rw [this] at h1
    exact ⟨q,h1,h2⟩
theorem f_f (S:StD ds N a l) {it:Operand} {i:Nat} (ho:o.op = .next it false) (hd:o.dst = some d) (hN:Nat.blt d N = true) (hx:ev l it = some (.pointer (some ⟨i,0,.none⟩))) (I:Ci kd t T Ls i w c lf cur) (hiL:Nes Ls (some i))
    (k1:∀ a',lf = [] → StD ds N a' ((d,.tuple #[.bool false]) :: l) → Kont a' w)
    (k2:∀ a' w' q j z b x,lf[q]? = some (z,x) → InR kd z → c[j]? = some (z,x) → Ls[j + 1]? = some (some b) → Wrote i w w' → Ci kd t T Ls i w' c (lf.eraseIdx q) (some (z,b)) → StD ds N a' ((d,.tuple #[.bool true,.int kd z,.pointer (some ⟨b,0,.none⟩)]) :: l) → Kont a' w'):o.wp P a w Kont Q:=by
  have hil:=I.lt
  obtain ⟨hf,mb,es,n,Se,I⟩:=I
  rcases run_next_at (P:=P) w o.type i mb n n Se es n I.it I.cl.map I.cl.lt (Nat.le_refl _) with ⟨h0,hr⟩ | ⟨e,he,w1,hw1,hr⟩
  · refine a_w S hd hN (by simp [execOp,ho,S.eval hx,hr]) fun a'=>k1 a' ?_
    refine List.eq_nil_of_length_eq_zero ?_
    rw [← I.ll];simpa using h0
  · obtain ⟨q,hq⟩:=List.mem_iff_getElem?.1 he
    have hql:q < lf.length:=by rw [← I.ll];exact (List.getElem?_eq_some_iff.1 hq).1
    obtain ⟨j,hje,hjc⟩:=I.le q e lf[q] hq (List.getElem?_eq_getElem hql)
    obtain ⟨hin,e2,b,g1,g2,g3,g4,_⟩:=I.cl.ent j lf[q].1 lf[q].2 hjc
    rw [hje] at g1
    obtain rfl:=Option.some.inj g1
    have hw:Wrote i w (ChangeMaps.setBlock w1 i (.mapIter (some mb) n (Se.push e.born) n)):=by
      rcases hw1 with rfl | rfl
      · exact ⟨rfl,rfl,rfl,by simp [ChangeMaps.setBlock],fun q hq=>by simp [ChangeMaps.setBlock,Array.getElem?_setIfInBounds_ne (Ne.symm hq)]⟩
      · exact ⟨rfl,rfl,rfl,by show (w.heap.setIfInBounds i _).size = _;simp,fun q hq=>by show (w.heap.setIfInBounds i _)[q]? = _;simp [Array.getElem?_setIfInBounds_ne (Ne.symm hq)]⟩
    have hit:(ChangeMaps.setBlock w1 i (.mapIter (some mb) n (Se.push e.born) n)).heap[i]? = some (.mapIter (some mb) n (Se.push e.born) n):=by
      rcases hw1 with rfl | rfl
      · show (w1.heap.setIfInBounds i _)[i]? = _;simp [hil]
      · show (w.heap.setIfInBounds i _)[i]? = _;simp [hil]
    refine a_w S hd hN (by simp [execOp,ho,S.eval hx,hr];exact ⟨rfl,rfl⟩) fun a'=>?_
    rw [g2,g3]
    have hnd:((leftOf es Se).toList.map (·.born)).Nodup:=by
      unfold leftOf
      rw [Array.toList_filter]
      exact (I.cl.born).sublist (List.Sublist.map _ List.filter_sublist)
    have hl:(leftOf es (Se.push e.born)).toList = (leftOf es Se).toList.eraseIdx q:=by
      rw [← c_C e _ q hnd hq]
      unfold leftOf
      rw [Array.toList_filter,Array.toList_filter,List.filter_filter]
      refine List.filter_congr fun x _=>?_
      have:(x.born == e.born) = decide (x.born = e.born):=rfl
      simp [Bool.and_comm,this]
    refine k2 a' _ q j lf[q].1 b lf[q].2 (List.getElem?_eq_getElem hql) hin hjc g4 hw ⟨hf,mb,es,n,Se.push e.born,I.cl.frame hf (Nat.le_of_eq hw.size.symm) fun b hb _=>hw.block b fun e=>hiL b hb (by rw [e]),hit,?_,fun p e' kx h1 h2=>?_,fun k' b' hkb=>?_⟩
    · rw [hl,List.length_eraseIdx_of_lt (by rw [I.ll];exact hql),List.length_eraseIdx_of_lt hql,I.ll]
    · rw [hl,List.getElem?_eraseIdx] at h1
      rw [List.getElem?_eraseIdx] at h2
      by_cases hp:p < q
      · rw [if_pos hp] at h1 h2;exact I.le p e' kx h1 h2
      · rw [if_neg hp] at h1 h2;exact I.le (p + 1) e' kx h1 h2
    · obtain ⟨rfl,rfl⟩:=Prod.mk.inj (Option.some.inj hkb)
      exact ⟨Se,e,rfl,List.mem_of_getElem? hje,g2,g3⟩
theorem e_p (S:StD ds N a l) {it:Operand} {i b:Nat} {z:Int} (ho:o.op = .entry it) (hd:o.dst = some d) (hN:Nat.blt d N = true) (hx:ev l it = some (.pointer (some ⟨i,0,.none⟩))) (I:Ci kd t T Ls i w c lf (some (z,b)))
    (k:∀ a',StD ds N a' ((d,.tuple #[.int kd z,.pointer (some ⟨b,0,.none⟩)]) :: l) → Kont a' w):o.wp P a w Kont Q:=by
  obtain ⟨hf,mb,es,n,Se,I⟩:=I
  obtain ⟨S0,e,rfl,he,hk,hv⟩:=I.cur z b rfl
  have hr:=run_entry_at (P:=P) w i mb n S0 es n e I.it I.cl.map he I.cl.born
  rw [hk,hv] at hr
  exact a_w S hd hN (by simp [execOp,ho,S.eval hx,hr]) k
end
section
variable {w:World} {L Ls LO:List (Option Nat)} {kd:IntKind} {t:GT} {T:TypeId} {c lf:List (Int × PT t)} {cur:Option (Int × Nat)} {i:Nat} {o:Option Nat}
theorem Cl.more (h:Cl kd t T Ls w c):Cl kd t T Ls w c:=h
theorem Cl.lessAt (h:Cl kd t T Ls w c) (i:Nat):Cl kd t T Ls w c:=h
theorem Cl.drop (h:Cl kd t T Ls w c) (i:Nat):Cl kd t T Ls w c:=h
theorem Cl.nd (h:Cl kd t T Ls w c):(c.map (·.1)).Nodup:=by obtain ⟨_,_,_,_,h⟩:=h;exact h.nd
theorem mem_ps (ps:List Nat) (hp:ps.map (fun p=>LO[p]?) = Ls.map some):∀ b,some b ∈ Ls → some b ∈ LO:=fun b hb=>by
  have hm:some (some b) ∈ ps.map (fun p=>LO[p]?):=by rw [hp];exact List.mem_map.2 ⟨_,hb,rfl⟩
  obtain ⟨p,_,hpe⟩:=List.mem_map.1 hm
  exact List.mem_of_getElem? hpe
end
section
variable {ds:List Deferred} {N:Nat} {a:Act} {l:List (Nat × Value)} {w:World} {P:Program} {Q:Exit → Act → World → Prop} {o:Oper} {Kont:Act → World → Prop} {d:Nat}
end
end Go.Proofs.YtlfgpmcohfaabaaGreatDoor
namespace Go.Proofs.YtlfgpmcohfaabaaGreatDoor
open Go.RowKit
theorem bTr {b:Bool} (h:¬ b = false):b = true:=by cases b <;> simp_all
theorem bFa {b:Bool} (h:¬ b = true):b = false:=by cases b <;> simp_all
def Mv (L L':List (Option Nat)):Prop:=∃ i o,L[i]? = some o ∧ L' = o :: L.eraseIdx i
section
variable {L L':List (Option Nat)} {w w0 A:World} {K:Nat → Prop} {n b m:Nat} {t:GT} {u:Value} {p:Addr} {x:PT t} {T:TypeId} {e:GT} {E:TypeId} {v:Value} {xs:List (PT e)} {c:Option Nat} {o:Option Nat}
theorem RepV.pm (h:RepV t w (Kx K n L) u x) (q:Mv L L'):RepV t w (Kx K n L') u x:=by obtain ⟨i,o1,hi,rfl⟩:=q;exact h.mv i hi
theorem Pr.pm (h:Pr t w (Kx K n L) p x) (q:Mv L L'):Pr t w (Kx K n L') p x:=by obtain ⟨i,o1,hi,rfl⟩:=q;exact h.mv i hi
theorem Bx.pm (h:Bx t T w (Kx K n L) b x) (q:Mv L L'):Bx t T w (Kx K n L') b x:=by obtain ⟨i,o1,hi,rfl⟩:=q;exact h.mv i hi
theorem Ow.pm (h:Ow e E w m (Kx K n L) v xs c) (q:Mv L L'):Ow e E w m (Kx K n L') v xs c:=by obtain ⟨i,o1,hi,rfl⟩:=q;exact h.mv i hi
theorem Wd.pm (h:Wd w0 w L) (q:Mv L L'):Wd w0 w L':=by obtain ⟨i,o1,hi,rfl⟩:=q;exact h.mv i hi
theorem Rnd.pm {LO:List (Option Nat)} (h:Rnd A LO w L) (q:Mv L L'):Rnd A LO w L':=by obtain ⟨i,o1,hi,rfl⟩:=q;exact h.mv i hi
end
end Go.Proofs.YtlfgpmcohfaabaaGreatDoor
namespace Go.Proofs.YtlfgpmcohfaabaaGreatDoor
open Go.RowKit
def u8B (P:Program) (T T2:TypeId):Bool:=(match P.underlying T with | some (.slice E)=>(match P.underlying E with | some (.int .u8)=>true | _=>false) && (P.info? E).any fun i=>Nat.beq i.bytes 1 && Nat.beq i.size 1 && (match i.zero with | some (.int .u8 0)=>true | _=>false) | _=>false) && (match P.underlying T2 with | some .string=>true | _=>false)
section
variable {dd:List Deferred} {N:Nat} {a:Act} {l:List (Nat × Value)} {w w0:World} {P:Program} {ops:Array Oper} {Q:Exit → Act → World → Prop} {rest:List Oper} {o:Oper} {Kont:Act → World → Prop} {d:Nat} {K:Nat → Prop} {n:Nat} {L:List (Option Nat)}
theorem d_f {B:Nat} {T T2 ty E:TypeId} {ie:TypeInfo} (hE:P.underlying T = some (.slice E)) (hS:P.underlying T2 = some .string) (hie:P.info? E = some ie) (hz:ie.zero = some (.int .u8 0)) (hs:ie.size = 1) (hb:ie.bytes = 1)
    {v:Value} {m:Nat} {cs:List Value} (h1:w.ownsRow B E 1 v m cs) (s:ByteArray) (hle:m + s.size ≤ 1099511627776) (hB:B ≤ w.heap.size) :
    ∃ v' w',(Builtin.append_ #[T,T2] ty #[v,.string s]).run P w = .ok v' w' ∧ w'.ownsRow B E 1 v' (m + s.size) (cs ++ Lib.strCells s) ∧ w.grownBy w' v.ownBlock ∧ (v'.ownBlock = v.ownBlock ∨ v'.ownBlock = some w.heap.size):=by
  obtain ⟨v',w',hr,a1,a2,_⟩:=Lib.run_append_own_string (P:=P) w B T T2 ty E ie hE hS hie hz hs hb v m cs h1 s (by simp only [maxLen];omega) (by omega) hB
  refine ⟨v',w',hr,a1,a2,?_⟩
  rcases h1.2 with ⟨rfl,rfl⟩ | ⟨g,cap,cur,rfl,hbg,hg,hnc,hcm,hcs,htake⟩
  · by_cases hm:s.size = 0
    · have hf:=Lib.run_firstCells_string (P:=P) w 1 s
      rw [hm] at hf
      have hn:Lib.strCells s = []:=List.eq_nil_of_length_eq_zero (by rw [Lib.strCells_length];exact hm)
      have:(Builtin.append_ #[T,T2] ty #[.slice none 0 0,.string s]).run P w = .ok (.slice none 0 0) w:=by
        simp [Builtin.append_,run_underlying hE,run_underlying hS,sizeOf,typeInfo,hie,hs,Builtin.lenOf,hm,hf]
      rw [this] at hr
      injection hr with e1 e2
      rw [← e1];exact .inl rfl
    · have hg:=run_append_nil_string (P:=P) w T T2 ty E ie (.int .u8 0) hE hS hie hz s (by omega) (by omega) (by rw [hb];omega)
      rw [hg] at hr
      injection hr with e1 e2
      rw [← e1];exact .inr rfl
  · have hxl:cs.length = m:=by simpa using h1.1
    by_cases hroom:m + s.size ≤ cap
    · have hcs':cur.size = cap:=by simpa using hcs
      have hg2:=Lib.run_append_room_string (P:=P) w T T2 ty E ie hE hS hie hs g m cap cur hg s hroom (by omega)
      rw [hg2] at hr
      injection hr with e1 e2
      rw [← e1];exact .inl rfl
    · have holds:∀ j u,cs[j]? = some u → w.cell? ((⟨g,0,none⟩:Addr).add j) = some u:=h1.cells (g:=g) rfl
      have hg2:=Lib.run_append_grow_string (P:=P) w T T2 ty E ie (.int .u8 0) hE hS hie hz ⟨g,0,none⟩ m cap cs (by rw [hs];simpa using hxl) holds s (by omega) (by omega) (by rw [hb];exact growslice_fits (by omega) (by omega))
      rw [hg2] at hr
      injection hr with e1 e2
      rw [← e1];exact .inr rfl
theorem b_o (S:StD dd N a l) (W:Wd w0 w L) {s x:Operand} {T T2 E:TypeId} {v:Value} {xs r ys:List Int} {c:Option Nat} (i:Nat) (ho:o.op = .call { callee:=.builtin .append,args:=#[s,x],argTypes:=#[T,T2] }) (hE:P.underlying T = some (.slice E)) (hu:u8B P T T2 = true) (hd:o.dst = some d) (hN:Nat.blt d N = true)
    (hs:ev l s = some v) (hx:ev l x = some (.string (strOfNums ys))) (O:Ow (.int .u8) E w w0.heap.size (Kx K w0.heap.size L) v xs c) (hi:L[i]? = some v.ownBlock) (hG:Byt ys ∧ ys.length ≤ 9223372036854775807) (hr:c_q xs ys = some r)
    (k:∀ a' w' v',Apd w w' v v' → Ow (.int .u8) E w' w0.heap.size (Kx K w0.heap.size (L.set i v'.ownBlock)) v' r .none → StD dd N a' ((d,v') :: l) → Kont a' w'):o.wp P a w Kont Q:=by
  obtain ⟨cs,h1,h2,h3⟩:=O
  unfold u8B at hu
  rw [hE] at hu
  simp only [Bool.and_eq_true] at hu
  obtain ⟨⟨_,hI⟩,hT2⟩:=hu
  have hS:P.underlying T2 = some .string:=by
    revert hT2
    cases hq:P.underlying T2 with
    | none=>intro h;cases h
    | some q=>cases q <;> intro h <;> first | rfl | cases h
  obtain ⟨ie,hie,hI⟩:=(Option.any_eq_true _ _).1 hI
  simp only [Bool.and_eq_true] at hI
  obtain ⟨⟨hb,hsz⟩,hz⟩:=hI
  have hb:=Nat.eq_of_beq_eq_true hb
  have hsz:=Nat.eq_of_beq_eq_true hsz
  have hz0:ie.zero = some (.int .u8 0):=by
    revert hz
    split
    · rename_i h;intro _;exact h
    · intro h;cases h
  unfold c_q at hr
  have hle:xs.length + ys.length ≤ 1099511627776:=by
    by_cases h:xs.length + ys.length ≤ 1099511627776
    · exact h
    · rw [if_neg h] at hr;cases hr
  rw [if_pos hle] at hr
  obtain rfl:=Option.some.inj hr
  have hss:(strOfNums ys).size = ys.length:=b_J ys
  have hsc:Lib.strCells (strOfNums ys) = u8s ys:=by
    have:=u8s_data hG.1
    unfold Lib.strCells
    rw [← Array.toList_map,this]
  have h1':w.ownsRow w0.heap.size E 1 v xs.length cs:=h1
  obtain ⟨v',w',hrun,a1,a2,a4⟩:=d_f (P:=P) (ty:=o.type) hE hS hie hz0 hsz hb h1' (strOfNums ys) (by rw [hss];exact hle) W.below.size
  rw [hss,hsc] at a1
  have hap:Apd w w' v v':=⟨a2,a4,fun q hq=>(a1.lt q hq).2⟩
  have hlen:(xs ++ ys).length = xs.length + ys.length:=List.length_append
  refine a_w S (v:=v') (w':=w') hd hN (by simp [execOp,ho,resolve,invoke,builtin,S.eval hs,S.eval hx,hrun]) fun a'=>k a' w' v' hap ⟨cs ++ u8s ys,by rw [hlen];exact a1,?_,fun q hq=>by cases hq⟩
  exact (d_n h2 (u8s_rep hG.1)).keep (hap.keeps hi) (hap.kk hi)
theorem d_g (S:StD dd N a l) {Tm:TypeId} (ho:o.op = .makeMap Tm .none) (hd:o.dst = some d) (hN:Nat.blt d N = true)
    (k:∀ a' w' b,NewB w w' b → StD dd N a' ((d,.map (some b)) :: l) → Kont a' w'):o.wp P a w Kont Q:=by
  refine a_w S (v:=.map (some w.heap.size)) (w':=w.alloc (.map #[] 0)) hd hN ?_ fun a'=>k a' _ w.heap.size (a_R w _)
  simp [execOp,ho,Instr.makeMap,newObj]
  rfl
def mapB (P:Program) (T:TypeId):Bool:=match P.underlying T with | some (.map _ _)=>true | _=>false
theorem run_mapeq {T:TypeId} (ht:mapB P T = true) (A:Option Nat):(Op.equal T (.map A) (.map .none)).run P w = .ok A.isNone w:=by
  unfold mapB at ht
  split at ht
  · rename_i hu
    show (Op.equalIn (9999 + 1) T (.map A) (.map .none)).run P w = _
    rw [Op.equalIn]
    simp only [Sem.run_bind,run_underlying hu,Result.andThen_ok]
    cases A <;> rfl
  · cases ht
theorem f_g (S:StD dd N a l) {T T':TypeId} {x y:Operand} {A:Nat} (ho:o.op = .binOp .neq T x y T') (ht:mapB P T = true) (hd:o.dst = some d) (hN:Nat.blt d N = true)
    (hx:ev l x = some (.map (some A))) (hy:ev l y = some (.map .none)) (k:∀ a',StD dd N a' ((d,.bool true) :: l) → Kont a' w):o.wp P a w Kont Q:=by
  refine a_w S hd hN ?_ k
  simp [execOp,ho,S.eval hx,S.eval hy,eqGuard,binOp,run_mapeq ht]
end
end Go.Proofs.YtlfgpmcohfaabaaGreatDoor
namespace Go.Proofs.YtlfgpmcohfaabaaGreatDoor
open Go.RowKit
section
variable {ds:List Deferred} {N:Nat} {a:Act} {l:List (Nat × Value)} {w:World} {P:Program} {ops:Array Oper} {o:Oper} {Kont:Act → World → Prop} {Q:Exit → Act → World → Prop} {d:Nat} {K:Nat → Prop}
end
end Go.Proofs.YtlfgpmcohfaabaaGreatDoor
namespace Go.Proofs.YtlfgpmcohfaabaaGreatDoor
open Go.RowKit
@[reducible] def pA (b:Nat) (g:GT) (k:Nat):Value:=.pointer (some ((⟨b,0,.none⟩:Addr).add (c_G g k)))
@[reducible] def pC (b:Nat) (g:GT) (k:Nat) (g':GT) (k':Nat):Value:=.pointer (some (((⟨b,0,.none⟩:Addr).add (c_G g k)).add (c_G g' k')))
theorem tE {x:Value}:∀ u (W:World),eqv x u W → u = x:=fun _ _ h=>h
theorem tI {k:IntKind} {x:Int}:∀ u (W:World),isI k x u W → u = .int k x:=fun _ _ h=>h.1
theorem tC {f:Value → World → Prop} {v:Value} {c w:Bool} (h:∀ u W,f u W → u = v):∀ u W,cndF c w f u W → c = w → u = v:=fun u W h1 hc=>h u W (h1.1 hc)
theorem tC2 {f:Value → World → Prop} {v:Value} {c w c2 w2:Bool} (h:∀ u W,f u W → u = v):∀ u W,cndF c w (cndF c2 w2 f) u W → c = w ∧ c2 = w2 → u = v:=fun u W h1 hc=>h u W ((h1.1 hc.1).1 hc.2)
section
variable {P:Program} {tys:List (TypeId × GT)} {ops:Array Oper} {a0:Act} {w0:World} {Q:Exit → Act → World → Prop} {Fs:List (Value → World → Prop)} {i d d1 d2 d3 dg:Nat} {o:Oper} {os:List Oper} {ds:List (Nat × Nat)} {D:List (List (Nat × Nat))} {N:Nat} {dd:List Deferred} {l:List (Nat × Value)} {v v1 v2 v3:Value} {c w c2 w2:Bool} {f f1 f2 f3:Value → World → Prop}
theorem u0 (ht:tysOk P tys = true) (S:StD dd N a0 l) (he:(ds.map fun p=>(b_i Fs p.1,p.2)) = []) (hf:b_i Fs i = f) (hd:o.dst = some d) (pf:∀ W,f v W) (r:RunAll Bl P ops a0 w0 Q Fs (i + 1) os D) (h:(a_o tys ops N [o] l).bind (fun q=>lk q d) = some v:=by kernel_rfl):RunAll Bl P ops a0 w0 Q Fs i (o :: os) (ds :: D) :=
  RunAll.cons f [] hf he (fun W hW=>RPost.o1 ht S S hd h (pf W)) r
theorem u1 (ht:tysOk P tys = true) (S:StD dd N a0 l) (he:(ds.map fun p=>(b_i Fs p.1,p.2)) = [(f1,d1)]) (t1:∀ u W,f1 u W → u = v1) (hf:b_i Fs i = f) (hd:o.dst = some d) (pf:∀ W,f1 v1 W → f v W) (r:RunAll Bl P ops a0 w0 Q Fs (i + 1) os D) (n1:Nat.blt d1 N = true:=by rfl) (h:(a_o tys ops N [o] ((d1,v1) :: l)).bind (fun q=>lk q d) = some v:=by kernel_rfl):RunAll Bl P ops a0 w0 Q Fs i (o :: os) (ds :: D) :=
  RunAll.cons f _ hf he (fun W hW u1 h1=>by obtain rfl:=t1 _ _ h1;exact RPost.o1 ht (S.pt d1 u1 n1) S hd h (pf W h1)) r
theorem u2 (ht:tysOk P tys = true) (S:StD dd N a0 l) (he:(ds.map fun p=>(b_i Fs p.1,p.2)) = [(f1,d1),(f2,d2)]) (t1:∀ u W,f1 u W → u = v1) (t2:∀ u W,f2 u W → u = v2) (hf:b_i Fs i = f) (hd:o.dst = some d) (pf:∀ W,f1 v1 W → f2 v2 W → f v W) (r:RunAll Bl P ops a0 w0 Q Fs (i + 1) os D) (n1:Nat.blt d1 N = true:=by rfl) (n2:Nat.blt d2 N = true:=by rfl) (h:(a_o tys ops N [o] ((d2,v2) :: (d1,v1) :: l)).bind (fun q=>lk q d) = some v:=by kernel_rfl):RunAll Bl P ops a0 w0 Q Fs i (o :: os) (ds :: D) :=
  RunAll.cons f _ hf he (fun W hW u1 h1 u2 h2=>by obtain rfl:=t1 _ _ h1;obtain rfl:=t2 _ _ h2;exact RPost.o1 ht ((S.pt d1 u1 n1).pt d2 u2 n2) S hd h (pf W h1 h2)) r
theorem u3 (ht:tysOk P tys = true) (S:StD dd N a0 l) (he:(ds.map fun p=>(b_i Fs p.1,p.2)) = [(f1,d1),(f2,d2),(f3,d3)]) (t1:∀ u W,f1 u W → u = v1) (t2:∀ u W,f2 u W → u = v2) (t3:∀ u W,f3 u W → u = v3) (hf:b_i Fs i = f) (hd:o.dst = some d) (pf:∀ W,f1 v1 W → f2 v2 W → f3 v3 W → f v W) (r:RunAll Bl P ops a0 w0 Q Fs (i + 1) os D) (n1:Nat.blt d1 N = true:=by rfl) (n2:Nat.blt d2 N = true:=by rfl) (n3:Nat.blt d3 N = true:=by rfl) (h:(a_o tys ops N [o] ((d3,v3) :: (d2,v2) :: (d1,v1) :: l)).bind (fun q=>lk q d) = some v:=by kernel_rfl):RunAll Bl P ops a0 w0 Q Fs i (o :: os) (ds :: D) :=
  RunAll.cons f _ hf he (fun W hW u1 h1 u2 h2 u3 h3=>by obtain rfl:=t1 _ _ h1;obtain rfl:=t2 _ _ h2;obtain rfl:=t3 _ _ h3;exact RPost.o1 ht (((S.pt d1 u1 n1).pt d2 u2 n2).pt d3 u3 n3) S hd h (pf W h1 h2 h3)) r
theorem m0 (S:StD dd N a0 l) (he:(ds.map fun p=>(b_i Fs p.1,p.2)) = []) (hf:b_i Fs i = f) (k:∀ W,Bl w0 W → ∀ a',StD dd N a' l → a0.defers = dd → wpList P ops (a_9 Bl o.dst f a0.defers W Q) [o] a' W) (r:RunAll Bl P ops a0 w0 Q Fs (i + 1) os D):RunAll Bl P ops a0 w0 Q Fs i (o :: os) (ds :: D) :=
  RunAll.cons f [] hf he (fun W hW=>k W hW _ S S.defers) r
theorem m1 (S:StD dd N a0 l) (he:(ds.map fun p=>(b_i Fs p.1,p.2)) = [(f1,d1)]) (t1:∀ u W,f1 u W → u = v1) (hf:b_i Fs i = f) (k:∀ W,Bl w0 W → ∀ a',StD dd N a' ((d1,v1) :: l) → a0.defers = dd → f1 v1 W → wpList P ops (a_9 Bl o.dst f a0.defers W Q) [o] a' W) (r:RunAll Bl P ops a0 w0 Q Fs (i + 1) os D) (n1:Nat.blt d1 N = true:=by rfl):RunAll Bl P ops a0 w0 Q Fs i (o :: os) (ds :: D) :=
  RunAll.cons f _ hf he (fun W hW u1 h1=>by obtain rfl:=t1 _ _ h1;exact k W hW _ (S.pt d1 u1 n1) S.defers h1) r
theorem m2 (S:StD dd N a0 l) (he:(ds.map fun p=>(b_i Fs p.1,p.2)) = [(f1,d1),(f2,d2)]) (t1:∀ u W,f1 u W → u = v1) (t2:∀ u W,f2 u W → u = v2) (hf:b_i Fs i = f) (k:∀ W,Bl w0 W → ∀ a',StD dd N a' ((d2,v2) :: (d1,v1) :: l) → a0.defers = dd → f1 v1 W → f2 v2 W → wpList P ops (a_9 Bl o.dst f a0.defers W Q) [o] a' W) (r:RunAll Bl P ops a0 w0 Q Fs (i + 1) os D) (n1:Nat.blt d1 N = true:=by rfl) (n2:Nat.blt d2 N = true:=by rfl):RunAll Bl P ops a0 w0 Q Fs i (o :: os) (ds :: D) :=
  RunAll.cons f _ hf he (fun W hW u1 h1 u2 h2=>by obtain rfl:=t1 _ _ h1;obtain rfl:=t2 _ _ h2;exact k W hW _ ((S.pt d1 u1 n1).pt d2 u2 n2) S.defers h1 h2) r
theorem Bx.lta {t:GT} {T:TypeId} {w:World} {K:Nat → Prop} {b:Nat} {x:PT t} (B:Bx t T w K b x) {k:Nat}:((⟨b,0,.none⟩:Addr).add k).block < w.heap.size:=by rw [Addr.add_lit];exact B.lt
theorem lta_not {b k:Nat} {X:List (Option Nat)} (h:some b ∉ X):some ((⟨b,0,.none⟩:Addr).add k).block ∉ X:=by rw [Addr.add_lit];exact h
theorem nbw {c w:Bool} (h:¬ c = w):c = !w:=by cases c <;> cases w <;> simp_all
theorem g0 (ht:tysOk P tys = true) (S:StD dd N a0 l) (he:(ds.map fun p=>(b_i Fs p.1,p.2)) = [(eqv (.bool c),dg)]) (hf:b_i Fs i = cndF c w f) (hd:o.dst = some d) (pf:∀ W,c = w → f v W) (r:RunAll Bl P ops a0 w0 Q Fs (i + 1) os D) (ng:Nat.blt dg N = true:=by rfl) (h:(a_o tys ops N [o] ((dg,.bool w) :: l)).bind (fun q=>lk q d) = some v:=by kernel_rfl) (h0:(a_o tys ops N [o] ((dg,.bool !w) :: l)).bind (fun q=>lk q d) = some undef:=by kernel_rfl):RunAll Bl P ops a0 w0 Q Fs i (o :: os) (ds :: D) :=
  RunAll.cons _ _ hf he (fun W hW u1 h1=>by
    obtain rfl:=tE _ _ h1
    by_cases hc:c = w
    · subst hc;exact RPost.o1 ht (S.pt dg _ ng) S hd h ⟨fun _=>pf W rfl,fun k=>absurd rfl k⟩
    · obtain rfl:=nbw hc;exact RPost.o1 ht (S.pt dg _ ng) S hd h0 ⟨fun k=>absurd k hc,fun _=>rfl⟩) r
theorem g1 (ht:tysOk P tys = true) (S:StD dd N a0 l) (he:(ds.map fun p=>(b_i Fs p.1,p.2)) = [(f1,d1),(eqv (.bool c),dg)]) (t1:∀ u W,f1 u W → c = w → u = v1) (hf:b_i Fs i = cndF c w f) (hd:o.dst = some d) (pf:∀ W,c = w → f1 v1 W → f v W) (r:RunAll Bl P ops a0 w0 Q Fs (i + 1) os D) (n1:Nat.blt d1 N = true:=by rfl) (ng:Nat.blt dg N = true:=by rfl) (h:(a_o tys ops N [o] ((dg,.bool w) :: (d1,v1) :: l)).bind (fun q=>lk q d) = some v:=by kernel_rfl) (h0:∀ u,(a_o tys ops N [o] ((dg,.bool !w) :: (d1,u) :: l)).bind (fun q=>lk q d) = some undef:=by exact fun _=>by kernel_rfl):RunAll Bl P ops a0 w0 Q Fs i (o :: os) (ds :: D) :=
  RunAll.cons _ _ hf he (fun W hW u1 h1 u2 h2=>by
    obtain rfl:=tE _ _ h2
    by_cases hc:c = w
    · obtain rfl:=t1 _ _ h1 hc;subst hc;exact RPost.o1 ht ((S.pt d1 _ n1).pt dg _ ng) S hd h ⟨fun _=>pf W rfl h1,fun k=>absurd rfl k⟩
    · obtain rfl:=nbw hc;exact RPost.o1 ht ((S.pt d1 _ n1).pt dg _ ng) S hd (h0 u1) ⟨fun k=>absurd k hc,fun _=>rfl⟩) r
theorem g2 (ht:tysOk P tys = true) (S:StD dd N a0 l) (he:(ds.map fun p=>(b_i Fs p.1,p.2)) = [(f1,d1),(f2,d2),(eqv (.bool c),dg)]) (t1:∀ u W,f1 u W → c = w → u = v1) (t2:∀ u W,f2 u W → c = w → u = v2) (hf:b_i Fs i = cndF c w f) (hd:o.dst = some d) (pf:∀ W,c = w → f1 v1 W → f2 v2 W → f v W) (r:RunAll Bl P ops a0 w0 Q Fs (i + 1) os D) (n1:Nat.blt d1 N = true:=by rfl) (n2:Nat.blt d2 N = true:=by rfl) (ng:Nat.blt dg N = true:=by rfl) (h:(a_o tys ops N [o] ((dg,.bool w) :: (d2,v2) :: (d1,v1) :: l)).bind (fun q=>lk q d) = some v:=by kernel_rfl) (h0:∀ u1 u2,(a_o tys ops N [o] ((dg,.bool !w) :: (d2,u2) :: (d1,u1) :: l)).bind (fun q=>lk q d) = some undef:=by exact fun _ _=>by kernel_rfl):RunAll Bl P ops a0 w0 Q Fs i (o :: os) (ds :: D) :=
  RunAll.cons _ _ hf he (fun W hW u1 h1 u2 h2 u3 h3=>by
    obtain rfl:=tE _ _ h3
    by_cases hc:c = w
    · obtain rfl:=t1 _ _ h1 hc;obtain rfl:=t2 _ _ h2 hc;subst hc;exact RPost.o1 ht (((S.pt d1 _ n1).pt d2 _ n2).pt dg _ ng) S hd h ⟨fun _=>pf W rfl h1 h2,fun k=>absurd rfl k⟩
    · obtain rfl:=nbw hc;exact RPost.o1 ht (((S.pt d1 _ n1).pt d2 _ n2).pt dg _ ng) S hd (h0 u1 u2) ⟨fun k=>absurd k hc,fun _=>rfl⟩) r
theorem k1 (ht:tysOk P tys = true) (S:StD dd N a0 l) (he:(ds.map fun p=>(b_i Fs p.1,p.2)) = [(f1,d1),(eqv (.bool c),dg)]) (t1:∀ u W,f1 u W → c = w → u = v1) (hf:b_i Fs i = cndF c w f) (hd:o.dst = some d) (k:∀ W,Bl w0 W → c = w → ∀ a',StD dd N a' ((dg,.bool w) :: (d1,v1) :: l) → a0.defers = dd → f1 v1 W → wpList P ops (a_9 Bl o.dst (cndF c w f) a0.defers W Q) [o] a' W) (r:RunAll Bl P ops a0 w0 Q Fs (i + 1) os D) (n1:Nat.blt d1 N = true:=by rfl) (ng:Nat.blt dg N = true:=by rfl) (h0:∀ u,(a_o tys ops N [o] ((dg,.bool !w) :: (d1,u) :: l)).bind (fun q=>lk q d) = some undef:=by exact fun _=>by kernel_rfl):RunAll Bl P ops a0 w0 Q Fs i (o :: os) (ds :: D) :=
  RunAll.cons _ _ hf he (fun W hW u1 h1 u2 h2=>by
    obtain rfl:=tE _ _ h2
    by_cases hc:c = w
    · obtain rfl:=t1 _ _ h1 hc;subst hc;exact k W hW rfl _ ((S.pt d1 u1 n1).pt dg (.bool c) ng) S.defers h1
    · obtain rfl:=nbw hc;exact RPost.o1 ht ((S.pt d1 _ n1).pt dg _ ng) S hd (h0 u1) ⟨fun k=>absurd k hc,fun _=>rfl⟩) r
theorem h0 (ht:tysOk P tys = true) (S:StD dd N a0 l) (he:(ds.map fun p=>(b_i Fs p.1,p.2)) = [(cndF c w (eqv (.bool c2)),dg)]) (hf:b_i Fs i = cndF c w (cndF c2 w2 f)) (hd:o.dst = some d) (pf:∀ W,c = w ∧ c2 = w2 → f v W) (r:RunAll Bl P ops a0 w0 Q Fs (i + 1) os D) (ng:Nat.blt dg N = true:=by rfl) (h:(a_o tys ops N [o] ((dg,.bool w2) :: l)).bind (fun q=>lk q d) = some v:=by kernel_rfl) (h0:(a_o tys ops N [o] ((dg,.bool !w2) :: l)).bind (fun q=>lk q d) = some undef:=by kernel_rfl) (h00:(a_o tys ops N [o] ((dg,undef) :: l)).bind (fun q=>lk q d) = some undef:=by kernel_rfl):RunAll Bl P ops a0 w0 Q Fs i (o :: os) (ds :: D) :=
  RunAll.cons _ _ hf he (fun W hW u2 h2=>by
    by_cases hc:c = w
    · obtain rfl:=tE _ _ (h2.1 hc)
      by_cases hd2:c2 = w2
      · have S1:=S.pt dg (.bool c2) ng;rw [show (Value.bool c2) = .bool w2 by rw [hd2]] at S1 ⊢;exact RPost.o1 ht S1 S hd h ⟨fun _=>⟨fun _=>pf W ⟨hc,hd2⟩,fun k=>absurd hd2 k⟩,fun k=>absurd hc k⟩
      · obtain rfl:=nbw hd2;exact RPost.o1 ht (S.pt dg _ ng) S hd h0 ⟨fun _=>⟨fun k=>absurd k hd2,fun _=>rfl⟩,fun _=>rfl⟩
    · obtain rfl:=h2.2 hc;exact RPost.o1 ht (S.pt dg _ ng) S hd h00 ⟨fun k=>absurd k hc,fun _=>rfl⟩) r
theorem h1 (ht:tysOk P tys = true) (S:StD dd N a0 l) (he:(ds.map fun p=>(b_i Fs p.1,p.2)) = [(f1,d1),(cndF c w (eqv (.bool c2)),dg)]) (t1:∀ u W,f1 u W → c = w ∧ c2 = w2 → u = v1) (hf:b_i Fs i = cndF c w (cndF c2 w2 f)) (hd:o.dst = some d) (pf:∀ W,c = w ∧ c2 = w2 → f1 v1 W → f v W) (r:RunAll Bl P ops a0 w0 Q Fs (i + 1) os D) (n1:Nat.blt d1 N = true:=by rfl) (ng:Nat.blt dg N = true:=by rfl) (h:(a_o tys ops N [o] ((dg,.bool w2) :: (d1,v1) :: l)).bind (fun q=>lk q d) = some v:=by kernel_rfl) (h0:∀ u,(a_o tys ops N [o] ((dg,.bool !w2) :: (d1,u) :: l)).bind (fun q=>lk q d) = some undef:=by exact fun _=>by kernel_rfl) (h00:∀ u,(a_o tys ops N [o] ((dg,undef) :: (d1,u) :: l)).bind (fun q=>lk q d) = some undef:=by exact fun _=>by kernel_rfl):RunAll Bl P ops a0 w0 Q Fs i (o :: os) (ds :: D) :=
  RunAll.cons _ _ hf he (fun W hW u1 e1 u2 h2=>by
    by_cases hc:c = w
    · obtain rfl:=tE _ _ (h2.1 hc)
      by_cases hd2:c2 = w2
      · obtain rfl:=t1 _ _ e1 ⟨hc,hd2⟩;have S1:=(S.pt d1 u1 n1).pt dg (.bool c2) ng;rw [show (Value.bool c2) = .bool w2 by rw [hd2]] at S1 ⊢;exact RPost.o1 ht S1 S hd h ⟨fun _=>⟨fun _=>pf W ⟨hc,hd2⟩ e1,fun k=>absurd hd2 k⟩,fun k=>absurd hc k⟩
      · obtain rfl:=nbw hd2;exact RPost.o1 ht ((S.pt d1 _ n1).pt dg _ ng) S hd (h0 u1) ⟨fun _=>⟨fun k=>absurd k hd2,fun _=>rfl⟩,fun _=>rfl⟩
    · obtain rfl:=h2.2 hc;exact RPost.o1 ht ((S.pt d1 _ n1).pt dg _ ng) S hd (h00 u1) ⟨fun k=>absurd k hc,fun _=>rfl⟩) r
theorem k2 (ht:tysOk P tys = true) (S:StD dd N a0 l) (he:(ds.map fun p=>(b_i Fs p.1,p.2)) = [(f1,d1),(cndF c w (eqv (.bool c2)),dg)]) (t1:∀ u W,f1 u W → c = w ∧ c2 = w2 → u = v1) (hf:b_i Fs i = cndF c w (cndF c2 w2 f)) (hd:o.dst = some d) (k:∀ W,Bl w0 W → c = w → c2 = w2 → ∀ a',StD dd N a' ((dg,.bool w2) :: (d1,v1) :: l) → a0.defers = dd → f1 v1 W → wpList P ops (a_9 Bl o.dst (cndF c w (cndF c2 w2 f)) a0.defers W Q) [o] a' W) (r:RunAll Bl P ops a0 w0 Q Fs (i + 1) os D) (n1:Nat.blt d1 N = true:=by rfl) (ng:Nat.blt dg N = true:=by rfl) (h0:∀ u,(a_o tys ops N [o] ((dg,.bool !w2) :: (d1,u) :: l)).bind (fun q=>lk q d) = some undef:=by exact fun _=>by kernel_rfl) (h00:∀ u,(a_o tys ops N [o] ((dg,undef) :: (d1,u) :: l)).bind (fun q=>lk q d) = some undef:=by exact fun _=>by kernel_rfl):RunAll Bl P ops a0 w0 Q Fs i (o :: os) (ds :: D) :=
  RunAll.cons _ _ hf he (fun W hW u1 e1 u2 h2=>by
    by_cases hc:c = w
    · obtain rfl:=tE _ _ (h2.1 hc)
      by_cases hd2:c2 = w2
      · obtain rfl:=t1 _ _ e1 ⟨hc,hd2⟩;have S1:=(S.pt d1 u1 n1).pt dg (.bool c2) ng;rw [show (Value.bool c2) = .bool w2 by rw [hd2]] at S1 ⊢;exact k W hW hc hd2 _ S1 S.defers e1
      · obtain rfl:=nbw hd2;exact RPost.o1 ht ((S.pt d1 _ n1).pt dg _ ng) S hd (h0 u1) ⟨fun _=>⟨fun k=>absurd k hd2,fun _=>rfl⟩,fun _=>rfl⟩
    · obtain rfl:=h2.2 hc;exact RPost.o1 ht ((S.pt d1 _ n1).pt dg _ ng) S hd (h00 u1) ⟨fun k=>absurd k hc,fun _=>rfl⟩) r
theorem pk (ht:tysOk P tys = true) (S:StD dd N a0 l) {e q x:Bool} (he:(ds.map fun p=>(b_i Fs p.1,p.2)) = [(eqv (.bool c),d1),(cndF c w (eqv (.bool e)),d2)]) (hf:b_i Fs i = eqv (.bool q)) (hd:o.dst = some d) (H:(c = w → e = q) ∧ (¬ c = w → x = q)) (r:RunAll Bl P ops a0 w0 Q Fs (i + 1) os D) (n1:Nat.blt d1 N = true:=by rfl) (n2:Nat.blt d2 N = true:=by rfl) (h:(a_o tys ops N [o] ((d2,.bool e) :: (d1,.bool w) :: l)).bind (fun q=>lk q d) = some (.bool e):=by kernel_rfl) (h0:∀ u,(a_o tys ops N [o] ((d2,u) :: (d1,.bool !w) :: l)).bind (fun q=>lk q d) = some (.bool x):=by exact fun _=>by kernel_rfl):RunAll Bl P ops a0 w0 Q Fs i (o :: os) (ds :: D) :=
  RunAll.cons _ _ hf he (fun W hW u1 h1 u2 h2=>by
    obtain rfl:=tE _ _ h1
    by_cases hc:c = w
    · obtain rfl:=tE _ _ (h2.1 hc);have S1:=(S.pt d1 (.bool c) n1).pt d2 (.bool e) n2;rw [show (Value.bool c) = .bool w by rw [hc]] at S1 ⊢;exact RPost.o1 ht S1 S hd h (congrArg Value.bool (H.1 hc))
    · obtain rfl:=nbw hc;exact RPost.o1 ht ((S.pt d1 _ n1).pt d2 _ n2) S hd (h0 u2) (congrArg Value.bool (H.2 hc))) r
theorem r1 (S:StD dd N a0 l) (he:(ds.map fun p=>(b_i Fs p.1,p.2)) = [(f1,d1)]) (hf:b_i Fs i = f) (k:∀ W,Bl w0 W → ∀ v1,f1 v1 W → ∀ a',StD dd N a' ((d1,v1) :: l) → a0.defers = dd → wpList P ops (a_9 Bl o.dst f a0.defers W Q) [o] a' W) (r:RunAll Bl P ops a0 w0 Q Fs (i + 1) os D) (n1:Nat.blt d1 N = true:=by rfl):RunAll Bl P ops a0 w0 Q Fs i (o :: os) (ds :: D) :=
  RunAll.cons f _ hf he (fun W hW u1 h1=>k W hW u1 h1 _ (S.pt d1 u1 n1) S.defers) r
theorem r2 (S:StD dd N a0 l) (he:(ds.map fun p=>(b_i Fs p.1,p.2)) = [(f1,d1),(f2,d2)]) (hf:b_i Fs i = f) (k:∀ W,Bl w0 W → ∀ v1,f1 v1 W → ∀ v2,f2 v2 W → ∀ a',StD dd N a' ((d2,v2) :: (d1,v1) :: l) → a0.defers = dd → wpList P ops (a_9 Bl o.dst f a0.defers W Q) [o] a' W) (r:RunAll Bl P ops a0 w0 Q Fs (i + 1) os D) (n1:Nat.blt d1 N = true:=by rfl) (n2:Nat.blt d2 N = true:=by rfl):RunAll Bl P ops a0 w0 Q Fs i (o :: os) (ds :: D) :=
  RunAll.cons f _ hf he (fun W hW u1 h1 u2 h2=>k W hW u1 h1 u2 h2 _ ((S.pt d1 u1 n1).pt d2 u2 n2) S.defers) r
theorem r3 (S:StD dd N a0 l) (he:(ds.map fun p=>(b_i Fs p.1,p.2)) = [(f1,d1),(f2,d2),(f3,d3)]) (hf:b_i Fs i = f) (k:∀ W,Bl w0 W → ∀ v1,f1 v1 W → ∀ v2,f2 v2 W → ∀ v3,f3 v3 W → ∀ a',StD dd N a' ((d3,v3) :: (d2,v2) :: (d1,v1) :: l) → a0.defers = dd → wpList P ops (a_9 Bl o.dst f a0.defers W Q) [o] a' W) (r:RunAll Bl P ops a0 w0 Q Fs (i + 1) os D) (n1:Nat.blt d1 N = true:=by rfl) (n2:Nat.blt d2 N = true:=by rfl) (n3:Nat.blt d3 N = true:=by rfl):RunAll Bl P ops a0 w0 Q Fs i (o :: os) (ds :: D) :=
  RunAll.cons f _ hf he (fun W hW u1 h1 u2 h2 u3 h3=>k W hW u1 h1 u2 h2 u3 h3 _ (((S.pt d1 u1 n1).pt d2 u2 n2).pt d3 u3 n3) S.defers) r
theorem r4 {f4:Value → World → Prop} {d4:Nat} (S:StD dd N a0 l) (he:(ds.map fun p=>(b_i Fs p.1,p.2)) = [(f1,d1),(f2,d2),(f3,d3),(f4,d4)]) (hf:b_i Fs i = f) (k:∀ W,Bl w0 W → ∀ v1,f1 v1 W → ∀ v2,f2 v2 W → ∀ v3,f3 v3 W → ∀ v4,f4 v4 W → ∀ a',StD dd N a' ((d4,v4) :: (d3,v3) :: (d2,v2) :: (d1,v1) :: l) → a0.defers = dd → wpList P ops (a_9 Bl o.dst f a0.defers W Q) [o] a' W) (r:RunAll Bl P ops a0 w0 Q Fs (i + 1) os D) (n1:Nat.blt d1 N = true:=by rfl) (n2:Nat.blt d2 N = true:=by rfl) (n3:Nat.blt d3 N = true:=by rfl) (n4:Nat.blt d4 N = true:=by rfl):RunAll Bl P ops a0 w0 Q Fs i (o :: os) (ds :: D) :=
  RunAll.cons f _ hf he (fun W hW u1 h1 u2 h2 u3 h3 u4 h4=>k W hW u1 h1 u2 h2 u3 h3 u4 h4 _ ((((S.pt d1 u1 n1).pt d2 u2 n2).pt d3 u3 n3).pt d4 u4 n4) S.defers) r
theorem pg (ht:tysOk P tys = true) (S:StD dd N a0 l) {e q x:Bool} (he:(ds.map fun p=>(b_i Fs p.1,p.2)) = [(cndF c w (eqv (.bool c2)),d1),(cndF c w (cndF c2 w2 (eqv (.bool e))),d2),(eqv (.bool c),dg)]) (hf:b_i Fs i = cndF c w (eqv (.bool q))) (hd:o.dst = some d) (H:c = w → (c2 = w2 → e = q) ∧ (¬ c2 = w2 → x = q)) (r:RunAll Bl P ops a0 w0 Q Fs (i + 1) os D) (n1:Nat.blt d1 N = true:=by rfl) (n2:Nat.blt d2 N = true:=by rfl) (ng:Nat.blt dg N = true:=by rfl) (h:(a_o tys ops N [o] ((dg,.bool w) :: (d2,.bool e) :: (d1,.bool w2) :: l)).bind (fun q=>lk q d) = some (.bool e):=by kernel_rfl) (h0:∀ u,(a_o tys ops N [o] ((dg,.bool w) :: (d2,u) :: (d1,.bool !w2) :: l)).bind (fun q=>lk q d) = some (.bool x):=by exact fun _=>by kernel_rfl) (h00:∀ u1 u2,(a_o tys ops N [o] ((dg,.bool !w) :: (d2,u2) :: (d1,u1) :: l)).bind (fun q=>lk q d) = some undef:=by exact fun _ _=>by kernel_rfl):RunAll Bl P ops a0 w0 Q Fs i (o :: os) (ds :: D) :=
  RunAll.cons _ _ hf he (fun W hW u1 h1 u2 h2 u3 h3=>by
    obtain rfl:=tE _ _ h3
    by_cases hc:c = w
    · subst hc
      obtain rfl:=tE _ _ (h1.1 rfl)
      by_cases hc2:c2 = w2
      · subst hc2;obtain rfl:=tE _ _ ((h2.1 rfl).1 rfl);exact RPost.o1 ht (((S.pt d1 _ n1).pt d2 _ n2).pt dg _ ng) S hd h ⟨fun _=>congrArg Value.bool ((H rfl).1 rfl),fun k=>absurd rfl k⟩
      · obtain rfl:=nbw hc2;exact RPost.o1 ht (((S.pt d1 _ n1).pt d2 _ n2).pt dg _ ng) S hd (h0 u2) ⟨fun _=>congrArg Value.bool ((H rfl).2 hc2),fun k=>absurd rfl k⟩
    · obtain rfl:=nbw hc;exact RPost.o1 ht (((S.pt d1 _ n1).pt d2 _ n2).pt dg _ ng) S hd (h00 u1 u2) ⟨fun k=>absurd k hc,fun _=>rfl⟩) r
end
def mvF:List Nat → List (Option Nat) → List (Option Nat)
  | [],L=>L
  | i :: is,L=>mvF is (match L[i]? with | some o=>o :: L.eraseIdx i | .none=>L)
def Pm (L L':List (Option Nat)):Prop:=∃ is,mvF is L = L'
theorem Pm.ind {C:List (Option Nat) → Prop} (h:∀ L L',Mv L L' → C L → C L'):∀ {L L'},Pm L L' → C L → C L':=by
  rintro L L' ⟨is,rfl⟩ c
  induction is generalizing L with
  | nil=>exact c
  | cons i is ih =>
    unfold mvF
    cases e:L[i]? with
    | none=>exact ih c
    | some o=>exact ih (h _ _ ⟨i,o,e,rfl⟩ c)
section
variable {t:GT} {T E:TypeId} {w w0:World} {K:Nat → Prop} {n m b:Nat} {L L' LO:List (Option Nat)} {u v:Value} {o:Option Nat} {A:World} {e:GT} {c:Option Nat}
theorem RepV.pq {x:PT t} (h:RepV t w (Kx K n L) u x) (q:Pm L L'):RepV t w (Kx K n L') u x:=q.ind (C:=fun L=>RepV t w (Kx K n L) u x) (fun _ _ m h=>RepV.pm h m) h
theorem Pr.pq {p:Addr} {x:PT t} (h:Pr t w (Kx K n L) p x) (q:Pm L L'):Pr t w (Kx K n L') p x:=q.ind (C:=fun L=>Pr t w (Kx K n L) p x) (fun _ _ m h=>Pr.pm h m) h
theorem Bx.pq {x:PT t} (h:Bx t T w (Kx K n L) b x) (q:Pm L L'):Bx t T w (Kx K n L') b x:=q.ind (C:=fun L=>Bx t T w (Kx K n L) b x) (fun _ _ m h=>Bx.pm h m) h
theorem Ow.pq {xs:List (PT e)} (h:Ow e E w m (Kx K n L) v xs c) (q:Pm L L'):Ow e E w m (Kx K n L') v xs c:=q.ind (C:=fun L=>Ow e E w m (Kx K n L) v xs c) (fun _ _ m h=>Ow.pm h m) h
theorem Wd.pq (h:Wd w0 w L) (q:Pm L L'):Wd w0 w L':=q.ind (C:=fun L=>Wd w0 w L) (fun _ _ m h=>Wd.pm h m) h
theorem Rnd.pq (h:Rnd A LO w L) (q:Pm L L'):Rnd A LO w L':=q.ind (C:=fun L=>Rnd A LO w L) (fun _ _ m h=>Rnd.pm h m) h
end
end Go.Proofs.YtlfgpmcohfaabaaGreatDoor
